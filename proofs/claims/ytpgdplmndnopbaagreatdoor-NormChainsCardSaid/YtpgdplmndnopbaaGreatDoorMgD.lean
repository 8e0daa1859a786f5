/- The parser walked: its least steps. -/
import Derived.Test.YtpgdplmndnopbaaGreatDoorMgA
import Derived.Test.YtpgdplmndnopbaaGreatDoorMgB
import Derived.Test.YtpgdplmndnopbaaGreatDoorMgC
import Derived.StillTailTactics
import Derived.WalkLawsBesides
import Derived.Deep.RegionLaw
import Derived.Shelf.Strconv.Atoi
namespace Go.Proofs.YtpgdplmndnopbaaGreatDoor
open Go.RowKit
def Bt (pb : Nat) (w w' : World) : Prop := w'.os = w.os ∧ w'.tape = w.tape ∧ w'.output = w.output ∧ w.heap.size ≤ w'.heap.size ∧ ∀ k, k < w.heap.size → k ≠ pb → w'.heap[k]? = w.heap[k]?
theorem Bt.refl (pb : Nat) (w : World) : Bt pb w w := ⟨rfl, rfl, rfl, Nat.le_refl _, fun _ _ _ => rfl⟩
theorem Bt.trans {pb : Nat} {w w' w'' : World} (h : Bt pb w w') (k : Bt pb w' w'') : Bt pb w w'' :=
 ⟨k.1.trans h.1, k.2.1.trans h.2.1, k.2.2.1.trans h.2.2.1, Nat.le_trans h.2.2.2.1 k.2.2.2.1, fun i hi hp => (k.2.2.2.2 i (Nat.lt_of_lt_of_le hi h.2.2.2.1) hp).trans (h.2.2.2.2 i hi hp)⟩
theorem Bt.of_below {pb : Nat} {w w' : World} (h : Below w.heap.size w w') : Bt pb w w' := ⟨h.os, h.tape, h.output, h.size, fun k hk _ => h.block k hk⟩
theorem Bt.alloc {pb : Nat} {w w' : World} (h : Bt pb w w') (o : Obj) : Bt pb w (w'.alloc o) := h.trans (.of_below ((Below.refl _ _).alloc (Nat.le_refl _) _))
theorem Bt.drew {pb : Nat} {w w' : World} (h : Bt pb w w') : Bt pb w w'.drew := h
theorem Bt.at {pb : Nat} {w w' : World} (h : Bt pb w w') {k : Nat} {o : Obj} (hk : w.heap[k]? = some o) (hp : k ≠ pb) : w'.heap[k]? = some o :=
 (h.2.2.2.2 k (Array.getElem?_eq_some_iff.1 hk).1 hp).trans hk
def Ends (l : List Tok) : Prop := ∃ (l0 : List Tok) (stop : Int), l = l0 ++ [⟨0, ⟨#[]⟩, stop⟩]
theorem Ends.cons {l : List Tok} (h : Ends l) : ∃ t r, l = t :: r := by
 obtain ⟨l0, stop, rfl⟩ := h
 cases l0 with
 | nil => exact ⟨_, _, rfl⟩
 | cons t r => exact ⟨t, _, rfl⟩
theorem Ends.tail {t : Tok} {r : List Tok} (h : Ends (t :: r)) (hk : t.kind ≠ 0 ∨ t.text.data.toList ≠ []) : Ends r := by
 obtain ⟨l0, stop, e⟩ := h
 cases l0 with
 | nil =>
  injection e with e1 _
  subst e1
  rcases hk with h | h <;> exact absurd rfl h
 | cons t' r' =>
  injection e with _ e2
  exact ⟨r', stop, e2⟩
def TokG (t : Tok) : Prop := t.text.size ≤ 1048576 ∧ (t.kind = 2 → t.text.data.toList ≠ [] ∧ t.text.data.toList.length ≤ 18 ∧ ∀ c ∈ t.text.data.toList, 48 ≤ c ∧ c ≤ 57)
structure Ps (pb tb : Nat) (w : World) (l : List Tok) (deep : Nat) : Prop where
 blk : ∃ off cap, w.heap[pb]? = some (.cells #[.slice (some ⟨tb, off, none⟩) l.length cap, .int .i64 deep] 81 (0, 0)) ∧ l.length ≤ cap ∧ cap ≤ 9223372036854775807 ∧ tb ≠ pb ∧ tb < w.heap.size ∧ TokC w tb off l
 ends : Ends l
 toks : ∀ t ∈ l, TokG t
theorem Ps.lt {pb tb deep : Nat} {w : World} {l : List Tok} (h : Ps pb tb w l deep) : pb < w.heap.size := by
 obtain ⟨off, cap, hb, _⟩ := h.blk
 exact (Array.getElem?_eq_some_iff.1 hb).1
theorem TokC.agree {w w' : World} {b off : Nat} {l : List Tok} (h : TokC w b off l) (he : w'.heap[b]? = w.heap[b]?) : TokC w' b off l := by
 intro i hi
 have := h i hi
 unfold World.cell? at this ⊢
 simp only at this ⊢
 rw [he]; exact this
theorem Ps.below {pb tb deep : Nat} {w w' : World} {l : List Tok} (h : Ps pb tb w l deep) (hb : Below w.heap.size w w') : Ps pb tb w' l deep := by
 obtain ⟨off, cap, h1, h2, h3, h4, h5, h6⟩ := h.blk
 exact ⟨⟨off, cap, (hb.block _ h.lt).trans h1, h2, h3, h4, Nat.lt_of_lt_of_le h5 hb.size, h6.agree (hb.block _ h5)⟩, h.ends, h.toks⟩
def thr (c at_ : Int) : List PanicEntry := [{ v := .iface 77 (.agg #[.int .i64 c, .int .i64 at_]), recovered := false }]
theorem hp_top {w : World} {o : Obj} {k : Nat} (h : k = w.heap.size) : (w.alloc o).heap[k]? = some o := by subst h; exact Array.getElem?_push_size
theorem hp_in {w : World} {o x : Obj} {k : Nat} (h : w.heap[k]? = some x) : (w.alloc o).heap[k]? = some x :=
 (Lib.alloc_old w o k (Array.getElem?_eq_some_iff.1 h).1).trans h
theorem Ps.drew {pb tb deep : Nat} {w : World} {l : List Tok} (h : Ps pb tb w l deep) : Ps pb tb w.drew l deep := ⟨h.blk, h.ends, h.toks⟩
theorem Ps.alloc {pb tb deep : Nat} {w : World} {l : List Tok} (h : Ps pb tb w l deep) (o : Obj) : Ps pb tb (w.alloc o) l deep := h.below ((Below.refl _ _).alloc (Nat.le_refl _) o)
theorem Ps.at {pb tb deep : Nat} {w : World} {k : Int} {s : ByteArray} {pl : Int} {r : List Tok} (h : Ps pb tb w (⟨k, s, pl⟩ :: r) deep) :
 ∃ off cap, w.cell? ⟨pb, 0, none⟩ = some (.slice (some ⟨tb, off, none⟩) (r.length + 1) cap) ∧ w.cell? ⟨pb, 1, none⟩ = some (.int .i64 deep) ∧ w.frozen? ⟨pb, 0, none⟩ = false ∧ w.frozen? ⟨pb, 1, none⟩ = false ∧
  w.cell? ⟨tb, off, none⟩ = some (.int .u8 k) ∧ w.cell? ⟨tb, off + 1, none⟩ = some (.string s) ∧ w.cell? ⟨tb, off + 2, none⟩ = some (.int .i64 pl) ∧ pb < w.heap.size ∧ tb < w.heap.size ∧ tb ≠ pb ∧ r.length + 1 ≤ cap ∧ cap ≤ 9223372036854775807 ∧
  w.heap[pb]? = some (.cells #[.slice (some ⟨tb, off, none⟩) (r.length + 1) cap, .int .i64 deep] 81 (0, 0)) ∧ TokC w tb off (⟨k, s, pl⟩ :: r) := by
 obtain ⟨off, cap, hb, hcl, hcm, hne, hlt, hT⟩ := h.blk
 obtain ⟨k0, k1, k2⟩ := hT 0 (by simp)
 simp only [Nat.zero_mul, Nat.add_zero, List.getElem_cons_zero] at k0 k1 k2
 exact ⟨off, cap, by rw [Lib.cell_of_heap hb]; rfl, by rw [Lib.cell_of_heap hb]; rfl, Lib.frozen_of_heap hb 0, Lib.frozen_of_heap hb 1, k0, k1, k2, h.lt, hlt, hne, by simpa using hcl, hcm, hb, hT⟩
set_option maxRecDepth 100000 in
theorem fld51 (x y z : Value) (w : World) : (Instr.field 51 (.agg #[x, y, z]) 0).run Tryz.prog w = .ok x w ∧ (Instr.field 51 (.agg #[x, y, z]) 1).run Tryz.prog w = .ok y w ∧ (Instr.field 51 (.agg #[x, y, z]) 2).run Tryz.prog w = .ok z w := by
 refine ⟨?_, ?_, ?_⟩ <;> simp [Instr.field, run_underlying Tryz.underlying51, Sem.run_bind, Result.andThen, go_sem] <;> rfl
set_option maxRecDepth 100000 in
theorem slice47 (tb off n cap : Nat) (h1 : 1 ≤ n) (hc : 2 ≤ cap) (w : World) : (Instr.slice 47 (.slice (some ⟨tb, off, none⟩) n cap) (some (.int .i64 1)) none none).run Tryz.prog w = .ok (.slice (some ⟨tb, off + 3, none⟩) (n - 1) (cap - 1)) w := by
 rw [run_slice_l (P := Tryz.prog) (t := 47) (a := some ⟨tb, off, none⟩) (len := n) (cap := cap) (ht := by kernel_rfl) (kl := .i64) (l := 1) (h0 := by decide) (h1 := by omega)]
 have hs : (sizeOf (Tryz.prog.elem 47)).run Tryz.prog w = .ok 3 w := Tryz.sizeOf51 w
 rw [hs]
 simp only [Result.andThen, sliced]
 rw [if_neg (by simp; omega)]
 rfl
set_option maxRecDepth 100000 in
set_option maxHeartbeats 2000000 in
theorem next94_any (pb tb deep : Nat) (k : Int) (s : ByteArray) (pl : Int) (r : List Tok) (w : World) (h : Ps pb tb w (⟨k, s, pl⟩ :: r) deep) :
 Calls Tryz.prog 94 #[.pointer (some ⟨pb, 0, none⟩)] w fun e w' => e = .returned (.agg #[.int .u8 k, .string s, .int .i64 pl]) ∧ Below w.heap.size w w' := by
 obtain ⟨off, cap, c0, _, _, _, k0, k1, k2, hpl, hlt, _, _, _, _⟩ := h.at
 have h0 : (0 : Int) < ((r.length + 1 : Nat) : Int) := by omega
 have HB2 : Hid (∀ o, Below w.heap.size w (w.alloc o)) := fun o => (Below.refl _ w).alloc (Nat.le_refl _) o
 clear h
 go_enter Tryz.func94, Tryz.ntmps94
 go_wp2_with fail
 refine bodyPost_ret (results_cell_row rfl _ _ _ _ _ _ _ rfl (hp_top rfl) Tryz.underlying51 rfl (by kernel_rfl)) rfl ?_
 exact ⟨rfl, HB2.out _⟩
set_option maxRecDepth 100000 in
set_option maxHeartbeats 2000000 in
theorem fail45_any (pb tb deep : Nat) (c : Int) (k : Int) (s : ByteArray) (pl : Int) (r : List Tok) (w : World) (h : Ps pb tb w (⟨k, s, pl⟩ :: r) deep) :
 Calls Tryz.prog 45 #[.pointer (some ⟨pb, 0, none⟩), .int .i64 c] w fun e w' => e = .panicked (thr c pl) ∧ Below w.heap.size w w' := by
 have HN := Lib.hid (next94_any pb tb deep k s pl r w h)
 have hfd := fun W => (fld51 (.int .u8 k) (.string s) (.int .i64 pl) W).2.2
 clear h
 go_enter Tryz.func45, Tryz.ntmps45
 go_wp2_with fail
 refine HN.out.mono ?_
 rintro e w1 ⟨rfl, hb⟩
 have HB := Lib.hid hb
 clear hb
 go_wp2_with fail
 exact ⟨rfl, rfl, HB.out⟩
set_option maxRecDepth 100000 in
set_option maxHeartbeats 4000000 in
theorem pass167_any (pb tb deep : Nat) (k : Int) (s : ByteArray) (pl : Int) (r : List Tok) (w : World) (h : Ps pb tb w (⟨k, s, pl⟩ :: r) deep) (hr : Ends r) :
 Calls Tryz.prog 167 #[.pointer (some ⟨pb, 0, none⟩)] w fun e w' => e = .returned (.agg #[.int .u8 k, .string s, .int .i64 pl]) ∧ Ps pb tb w' r deep ∧ Bt pb w w' := by
 obtain ⟨off, cap, c0, _, f0, _, k0, k1, k2, hpl, hlt, hne, hcl, hcm, hb, hT⟩ := h.at
 have h0 : (0 : Int) < ((r.length + 1 : Nat) : Int) := by omega
 have h1 : (1 : Int) ≤ ((r.length + 1 : Nat) : Int) := by omega
 have h2 : ((r.length + 1 : Nat) : Int) ≤ (cap : Int) := by omega
 have HX : Hid (Ps pb tb (((w.setCell ⟨pb, 0, none⟩ (.slice (some ⟨tb, off + 3, none⟩) r.length (cap - 1))).alloc (.cells #[.int .u8 k, .string s, .int .i64 pl] 51)).drew) r deep ∧ Bt pb w (((w.setCell ⟨pb, 0, none⟩ (.slice (some ⟨tb, off + 3, none⟩) r.length (cap - 1))).alloc (.cells #[.int .u8 k, .string s, .int .i64 pl] 51)).drew)) := by
  have hE : ∀ j, j ≠ pb → (w.setCell ⟨pb, 0, none⟩ (.slice (some ⟨tb, off + 3, none⟩) r.length (cap - 1))).heap[j]? = w.heap[j]? :=
   fun j hj => Below.heap_setCell _ _ _ _ (fun e => hj e)
  have hsz : (w.setCell ⟨pb, 0, none⟩ (.slice (some ⟨tb, off + 3, none⟩) r.length (cap - 1))).heap.size = w.heap.size := by simp [World.setCell]
  have hP : Ps pb tb (w.setCell ⟨pb, 0, none⟩ (.slice (some ⟨tb, off + 3, none⟩) r.length (cap - 1))) r deep := by
   refine ⟨⟨off + 3, cap - 1, ?_, by omega, by omega, hne, by omega, ?_⟩, hr, fun t ht => h.toks t (List.mem_cons_of_mem _ ht)⟩
   ·simp [World.setCell, Array.getElem?_modify, hb]
   ·intro i hi
    have := hT (i + 1) (by simpa using hi)
    simp only [List.getElem_cons_succ] at this
    have e : off + (i + 1) * 3 = off + 3 + i * 3 := by omega
    rw [e] at this
    have hh := hE tb hne
    unfold World.cell? at this ⊢
    simp only at this ⊢
    rw [hh]; exact this
  have hB : Bt pb w (w.setCell ⟨pb, 0, none⟩ (.slice (some ⟨tb, off + 3, none⟩) r.length (cap - 1))) := ⟨rfl, rfl, rfl, by omega, fun j hj hp => hE j hp⟩
  exact ⟨(hP.alloc _).drew, (hB.alloc _).drew⟩
 have HN : Hid ((((w.setCell ⟨pb, 0, none⟩ (.slice (some ⟨tb, off + 3, none⟩) r.length (cap - 1))).alloc (.cells #[.int .u8 k, .string s, .int .i64 pl] 51)).drew).heap[w.heap.size]? = some (.cells #[.int .u8 k, .string s, .int .i64 pl] 51 (0, 0))) := by
  show ((w.setCell ⟨pb, 0, none⟩ (.slice (some ⟨tb, off + 3, none⟩) r.length (cap - 1))).alloc (.cells #[.int .u8 k, .string s, .int .i64 pl] 51)).heap[w.heap.size]? = _
  exact hp_top (by simp [World.setCell])
 have hr1 : 1 ≤ r.length := by obtain ⟨t', r', rfl⟩ := hr.cons; simp
 have hsl := fun W => slice47 tb off (r.length + 1) cap (by omega) (by omega) W
 clear h hb hT hcl hcm hr1
 go_enter Tryz.func167, Tryz.ntmps167
 go_wp2_with fail
 go_region_law (fail)
 all_goals
  go_wp2_with fail
  refine bodyPost_ret (results_cell_row rfl _ _ _ _ _ _ _ rfl HN.out Tryz.underlying51 rfl (by kernel_rfl)) rfl ?_
  exact ⟨rfl, HX.out⟩
end Go.Proofs.YtpgdplmndnopbaaGreatDoor

/- The parser walked: is, may, take. -/
namespace Go.Proofs.YtpgdplmndnopbaaGreatDoor
open Go.RowKit
theorem isT_cons (s : List UInt8) (k : Int) (t : ByteArray) (pl : Int) (r : List Tok) : isT s (⟨k, t, pl⟩ :: r) = (k != 2 && t.data.toList == s) := rfl
set_option maxRecDepth 100000 in
set_option maxHeartbeats 4000000 in
theorem is166_any (pb tb deep : Nat) (l : List Tok) (s : ByteArray) (w : World) (h : Ps pb tb w l deep) :
 Calls Tryz.prog 166 #[.pointer (some ⟨pb, 0, none⟩), .string s] w fun e w' => e = .returned (.bool (isT s.data.toList l)) ∧ Below w.heap.size w w' := by
 obtain ⟨⟨k, t, pl⟩, r, rfl⟩ := h.ends.cons
 rw [isT_cons]
 have HN := Lib.hid (next94_any pb tb deep k t pl r w h)
 have HN2 : Hid (∀ W, Below w.heap.size w W → Calls Tryz.prog 94 #[.pointer (some ⟨pb, 0, none⟩)] W fun e w' => e = .returned (.agg #[.int .u8 k, .string t, .int .i64 pl]) ∧ Below W.heap.size W w') :=
  fun W hb => next94_any pb tb deep k t pl r W (h.below hb)
 have hf0 := fun W => (fld51 (.int .u8 k) (.string t) (.int .i64 pl) W).1
 have hf1 := fun W => (fld51 (.int .u8 k) (.string t) (.int .i64 pl) W).2.1
 have HE : Hid ((t.toList == s.toList) = (t.data.toList == s.data.toList)) := by rw [Hid, ByteArray.toList_eq, ByteArray.toList_eq]
 clear h
 cases q : k != 2 with
 | false =>
  go_enter Tryz.func166, Tryz.ntmps166
  go_wp2_with fail
  refine HN.out.mono ?_
  rintro e w1 ⟨rfl, hb⟩
  have HB := Lib.hid hb
  clear hb
  go_wp2_with fail
  all_goals go_ret
  all_goals exact ⟨rfl, HB.out⟩
 | true =>
  go_enter Tryz.func166, Tryz.ntmps166
  go_wp2_with fail
  refine HN.out.mono ?_
  rintro e w1 ⟨rfl, hb⟩
  have HB := Lib.hid hb
  clear hb
  go_wp2_with fail
  refine (HN2.out _ HB.out).mono ?_
  rintro e w2 ⟨rfl, hb⟩
  have HB2 := Lib.hid (HB.out.trans (hb.mono HB.out.size))
  clear hb
  go_wp2_with fail
  all_goals go_ret
  all_goals exact ⟨ret_bool' (by rw [HE.out]; rfl), HB2.out⟩
theorem Ps.tail_ends {pb tb deep : Nat} {w : World} {k : Int} {t : ByteArray} {pl : Int} {r : List Tok} (h : Ps pb tb w (⟨k, t, pl⟩ :: r) deep) {s : List UInt8} (hs : s ≠ []) (hi : isT s (⟨k, t, pl⟩ :: r) = true) : Ends r := by
 rw [isT_cons, Bool.and_eq_true, beq_iff_eq] at hi
 exact h.ends.tail (.inr (by rw [hi.2]; exact hs))
set_option maxRecDepth 100000 in
set_option maxHeartbeats 4000000 in
theorem may139_any (pb tb deep : Nat) (l : List Tok) (s : ByteArray) (hs : s.data.toList ≠ []) (w : World) (h : Ps pb tb w l deep) :
 Calls Tryz.prog 139 #[.pointer (some ⟨pb, 0, none⟩), .string s] w fun e w' => e = .returned (.bool (isT s.data.toList l)) ∧ Ps pb tb w' (if isT s.data.toList l then l.tail else l) deep ∧ Bt pb w w' := by
 obtain ⟨⟨k, t, pl⟩, r, rfl⟩ := h.ends.cons
 have HI := Lib.hid (is166_any pb tb deep _ s w h)
 have HP := Lib.hid (fun (W : World) (hb : Below w.heap.size w W) (hi : isT s.data.toList (⟨k, t, pl⟩ :: r) = true) => pass167_any pb tb deep k t pl r W (h.below hb) (h.tail_ends hs hi))
 have HH := Lib.hid h
 clear h
 cases q : isT s.data.toList (⟨k, t, pl⟩ :: r) with
 | false =>
  rw [q] at HI
  simp only [Bool.false_eq_true, if_false]
  clear HP q
  go_enter Tryz.func139, Tryz.ntmps139
  go_wp2_with fail
  refine HI.out.mono ?_
  rintro e w1 ⟨rfl, hb⟩
  have HB := Lib.hid hb
  clear hb
  go_wp2_with fail
  all_goals go_ret
  all_goals exact ⟨rfl, HH.out.below HB.out, .of_below HB.out⟩
 | true =>
  rw [q] at HI
  simp only [if_true, List.tail_cons]
  have HQ := Lib.hid q
  clear q
  go_enter Tryz.func139, Tryz.ntmps139
  go_wp2_with fail
  refine HI.out.mono ?_
  rintro e w1 ⟨rfl, hb⟩
  have HB := Lib.hid hb
  clear hb
  go_wp2_with fail
  refine (HP.out _ HB.out HQ.out).mono ?_
  rintro e w2 ⟨rfl, hp, hb⟩
  have HP2 := Lib.hid hp
  have HB2 := Lib.hid ((Bt.of_below (pb := pb) HB.out).trans hb)
  clear hp hb
  go_wp2_with fail
  all_goals go_ret
  all_goals exact ⟨rfl, HP2.out, HB2.out⟩
set_option maxRecDepth 100000 in
set_option maxHeartbeats 4000000 in
theorem take169_ok (pb tb deep g : Nat) (l : List Tok) (s : ByteArray) (hs : s.data.toList ≠ []) (w : World) (h : Ps pb tb w l deep) (hg : w.heap[g]? = some (.cells #[.string s] 9 (0, 0))) (hi : isT s.data.toList l = true) :
 Calls Tryz.prog 169 #[.pointer (some ⟨pb, 0, none⟩), .slice (some ⟨g, 0, none⟩) 1 1] w fun e w' => e = .returned (.tuple #[]) ∧ Ps pb tb w' l.tail deep ∧ Bt pb w w' := by
 have HM := Lib.hid (may139_any pb tb deep l s hs w h)
 rw [hi] at HM
 simp only [if_true] at HM
 have c0 : w.cell? ⟨g, 0, none⟩ = some (.string s) := by rw [Lib.cell_of_heap hg]; rfl
 clear h hg hi
 go_enter Tryz.func169, Tryz.ntmps169
 go_wp2_with fail
 go_loopw [8] (fun i wr => (i = .int .i64 0 ∧ wr = w) ∨ (i = .int .i64 1 ∧ Hid (Ps pb tb wr l.tail deep ∧ Bt pb w wr))) (fun i _ => 1 - (intOf i).toNat)
 case atStart => exact .inl ⟨rfl, rfl⟩
 case round =>
  rcases hrel with ⟨rfl, rfl⟩ | ⟨rfl, HX⟩
  ·go_wp2_with fail
   refine HM.out.mono ?_
   rintro e w1 ⟨rfl, hp⟩
   have HP := Lib.hid hp
   clear hp
   go_wp2_with fail
   go_roundw
   case rel => exact .inr ⟨by go_num, HP⟩
   case measure => simp [intOf]
  ·go_wp2_with fail
   all_goals go_end0
   all_goals exact ⟨rfl, HX.out⟩
set_option maxRecDepth 100000 in
set_option maxHeartbeats 4000000 in
theorem take169_no (pb tb deep g : Nat) (l : List Tok) (s : ByteArray) (hs : s.data.toList ≠ []) (w : World) (h : Ps pb tb w l deep) (hg : w.heap[g]? = some (.cells #[.string s] 9 (0, 0))) (hi : isT s.data.toList l = false) :
 Calls Tryz.prog 169 #[.pointer (some ⟨pb, 0, none⟩), .slice (some ⟨g, 0, none⟩) 1 1] w fun e w' => e = .panicked (thr 170 (placeT l)) ∧ Bt pb w w' := by
 have HM := Lib.hid (may139_any pb tb deep l s hs w h)
 rw [hi] at HM
 simp only [Bool.false_eq_true, if_false] at HM
 have c0 : w.cell? ⟨g, 0, none⟩ = some (.string s) := by rw [Lib.cell_of_heap hg]; rfl
 obtain ⟨⟨k, t, pl⟩, r, rfl⟩ := h.ends.cons
 have HF := Lib.hid (fun (W : World) (hp : Ps pb tb W (⟨k, t, pl⟩ :: r) deep) => fail45_any pb tb deep 170 k t pl r W hp)
 clear h hg hi
 go_enter Tryz.func169, Tryz.ntmps169
 go_wp2_with fail
 go_loopw [8] (fun i wr => i = .int .i64 0 ∧ wr = w) (fun i _ => 1 - (intOf i).toNat)
 case atStart => exact ⟨rfl, rfl⟩
 case round =>
  obtain ⟨rfl, rfl⟩ := hrel
  go_wp2_with fail
  refine HM.out.mono ?_
  rintro e w1 ⟨rfl, hp, hb⟩
  have HP := Lib.hid hp
  have HB := Lib.hid hb
  clear hp hb
  go_wp2_with fail
  refine (HF.out _ HP.out).mono ?_
  rintro e w2 ⟨rfl, hb⟩
  have HB2 := Lib.hid (HB.out.trans (.of_below hb))
  clear hb
  go_wp2_with fail
  exact ⟨rfl, rfl, HB2.out⟩
end Go.Proofs.YtpgdplmndnopbaaGreatDoor

/- strconv.Atoi laid at this program's numbers; the parser's number walked. -/
namespace Go.Proofs
open Go.Shelf
def Tryz.lays172_ren : Go.Shelf.Ren := ⟨fun | 172 => 198 | 244 => 214 | 245 => 174 | 247 => 219 | 279 => 188 | 280 => 189 | 281 => 190 | 282 => 191 | 287 => 173 | 316 => 206 | 171 => 127 | 205 => 207 | 321 => 186 | 322 => 187 | 243 => 163 | 246 => 178 | 283 => 192 | 284 => 193 | 285 => 194 | 286 => 195 | 129 => 209 | 317 => 208 | 318 => 210 | 319 => 211 | 320 => 212 | 337 => 217 | 338 => 218 | n => n, fun | 9 => 9 | 3 => 3 | 75 => 147 | 76 => 148 | 4 => 4 | 5 => 5 | 167 => 185 | 37 => 65 | 0 => 0 | 85 => 212 | 2 => 2 | 168 => 187 | 53 => 160 | 175 => 161 | 46 => 167 | 210 => 199 | 127 => 114 | 145 => 210 | 143 => 208 | 21 => 21 | 171 => 190 | 173 => 193 | 212 => 202 | 51 => 203 | 20 => 20 | 213 => 204 | 232 => 214 | 233 => 215 | 80 => 71 | n => n, fun | 15 => 1 | 16 => 2 | 17 => 3 | 18 => 4 | 19 => 5 | n => n⟩
theorem Tryz.lays172 : Go.Proofs.Lays.n172 Tryz.prog Tryz.lays172_ren := {
 mixed := by kernel_rfl
 f129 := Tryz.func209.trans (congrArg some (by kernel_rfl))
 f171 := Tryz.func127.trans (congrArg some (by kernel_rfl))
 f172 := Tryz.func198.trans (congrArg some (by kernel_rfl))
 f205 := Tryz.func207.trans (congrArg some (by kernel_rfl))
 f243 := Tryz.func163.trans (congrArg some (by kernel_rfl))
 f244 := Tryz.func214.trans (congrArg some (by kernel_rfl))
 f245 := Tryz.func174.trans (congrArg some (by kernel_rfl))
 f246 := Tryz.func178.trans (congrArg some (by kernel_rfl))
 f247 := Tryz.func219.trans (congrArg some (by kernel_rfl))
 f279 := Tryz.func188.trans (congrArg some (by kernel_rfl))
 f280 := Tryz.func189.trans (congrArg some (by kernel_rfl))
 f281 := Tryz.func190.trans (congrArg some (by kernel_rfl))
 f282 := Tryz.func191.trans (congrArg some (by kernel_rfl))
 f283 := Tryz.func192.trans (congrArg some (by kernel_rfl))
 f284 := Tryz.func193.trans (congrArg some (by kernel_rfl))
 f285 := Tryz.func194.trans (congrArg some (by kernel_rfl))
 f286 := Tryz.func195.trans (congrArg some (by kernel_rfl))
 f287 := Tryz.func173.trans (congrArg some (by kernel_rfl))
 f316 := Tryz.func206.trans (congrArg some (by kernel_rfl))
 f317 := Tryz.func208.trans (congrArg some (by kernel_rfl))
 f318 := Tryz.func210.trans (congrArg some (by kernel_rfl))
 f319 := Tryz.func211.trans (congrArg some (by kernel_rfl))
 f320 := Tryz.func212.trans (congrArg some (by kernel_rfl))
 f321 := Tryz.func186.trans (congrArg some (by kernel_rfl))
 f322 := Tryz.func187.trans (congrArg some (by kernel_rfl))
 f337 := Tryz.func217.trans (congrArg some (by kernel_rfl))
 f338 := Tryz.func218.trans (congrArg some (by kernel_rfl))
 t0 := Tryz.underlying0
 a0 := Tryz.isAgg0
 z0 := Tryz.sizeOf0
 v0 := Tryz.zeroValue0
 t2 := Tryz.underlying2
 a2 := Tryz.isAgg2
 z2 := Tryz.sizeOf2
 v2 := Tryz.zeroValue2
 t3 := Tryz.underlying3
 a3 := Tryz.isAgg3
 z3 := Tryz.sizeOf3
 v3 := Tryz.zeroValue3
 t4 := Tryz.underlying4
 a4 := Tryz.isAgg4
 z4 := Tryz.sizeOf4
 v4 := Tryz.zeroValue4
 t5 := Tryz.underlying5
 a5 := Tryz.isAgg5
 z5 := Tryz.sizeOf5
 v5 := Tryz.zeroValue5
 t9 := Tryz.underlying9
 a9 := Tryz.isAgg9
 z9 := Tryz.sizeOf9
 v9 := Tryz.zeroValue9
 t20 := Tryz.underlying20
 a20 := Tryz.isAgg20
 z20 := Tryz.sizeOf20
 v20 := Tryz.zeroValue20
 t21 := Tryz.underlying21
 a21 := Tryz.isAgg21
 z21 := Tryz.sizeOf21
 v21 := Tryz.zeroValue21
 t37 := Tryz.underlying65
 a37 := Tryz.isAgg65
 z37 := Tryz.sizeOf65
 v37 := Tryz.zeroValue65
 t46 := Tryz.underlying167
 a46 := Tryz.isAgg167
 z46 := Tryz.sizeOf167
 v46 := Tryz.zeroValue167
 t51 := Tryz.underlying203
 a51 := Tryz.isAgg203
 z51 := Tryz.sizeOf203
 v51 := Tryz.zeroValue203
 t53 := Tryz.underlying160
 a53 := Tryz.isAgg160
 z53 := Tryz.sizeOf160
 v53 := Tryz.zeroValue160
 t75 := Tryz.underlying147
 a75 := Tryz.isAgg147
 z75 := Tryz.sizeOf147
 v75 := Tryz.zeroValue147
 t76 := Tryz.underlying148
 a76 := Tryz.isAgg148
 z76 := Tryz.sizeOf148
 v76 := Tryz.zeroValue148
 t85 := Tryz.underlying212
 a85 := Tryz.isAgg212
 z85 := Tryz.sizeOf212
 v85 := Tryz.zeroValue212
 t127 := Tryz.underlying114
 a127 := Tryz.isAgg114
 z127 := Tryz.sizeOf114
 v127 := Tryz.zeroValue114
 t143 := Tryz.underlying208
 a143 := Tryz.isAgg208
 z143 := Tryz.sizeOf208
 v143 := Tryz.zeroValue208
 t145 := Tryz.underlying210
 a145 := Tryz.isAgg210
 z145 := Tryz.sizeOf210
 v145 := Tryz.zeroValue210
 t167 := Tryz.underlying185
 a167 := Tryz.isAgg185
 z167 := Tryz.sizeOf185
 v167 := Tryz.zeroValue185
 t168 := Tryz.underlying187
 a168 := Tryz.isAgg187
 z168 := Tryz.sizeOf187
 v168 := Tryz.zeroValue187
 t171 := Tryz.underlying190
 a171 := Tryz.isAgg190
 z171 := Tryz.sizeOf190
 v171 := Tryz.zeroValue190
 t173 := Tryz.underlying193
 a173 := Tryz.isAgg193
 z173 := Tryz.sizeOf193
 v173 := Tryz.zeroValue193
 t175 := Tryz.underlying161
 a175 := Tryz.isAgg161
 z175 := Tryz.sizeOf161
 v175 := Tryz.zeroValue161
 t210 := Tryz.underlying199
 a210 := Tryz.isAgg199
 z210 := Tryz.sizeOf199
 v210 := Tryz.zeroValue199
 t212 := Tryz.underlying202
 a212 := Tryz.isAgg202
 z212 := Tryz.sizeOf202
 v212 := Tryz.zeroValue202
 t213 := Tryz.underlying204
 a213 := Tryz.isAgg204
 z213 := Tryz.sizeOf204
 t232 := Tryz.underlying214
 a232 := Tryz.isAgg214
 z232 := Tryz.sizeOf214
 v232 := Tryz.zeroValue214
 t233 := Tryz.underlying215
 a233 := Tryz.isAgg215
 z233 := Tryz.sizeOf215
 v233 := Tryz.zeroValue215
 g15 := by kernel_rfl
 g16 := by kernel_rfl
 g17 := by kernel_rfl
 g18 := by kernel_rfl
 g19 := by kernel_rfl }
end Go.Proofs
namespace Go.Proofs.YtpgdplmndnopbaaGreatDoor
open Go.RowKit
theorem digit_val {c : UInt8} (h : 48 ≤ c ∧ c ≤ 57) : Lib.digitVal c = some (c.toNat - 48) := by
 have h1 := UInt8.le_iff_toNat_le.1 h.1
 have h2 := UInt8.le_iff_toNat_le.1 h.2
 unfold Lib.digitVal
 rw [if_pos ⟨h1, h2⟩]
theorem dec_digits : ∀ (l : List UInt8) (acc : Nat), (∀ c ∈ l, 48 ≤ c ∧ c ≤ 57) → ∃ m : Nat, Lib.decFrom acc l = some m ∧ (m : Int) = l.foldl (fun n c => 10 * n + ((c.toNat : Int) - 48)) (acc : Int)
 | [], acc, _ => ⟨acc, rfl, rfl⟩
 | c :: r, acc, h => by
  have hc := h c (by simp)
  obtain ⟨m, h1, h2⟩ := dec_digits r (acc * 10 + (c.toNat - 48)) fun x hx => h x (by simp [hx])
  refine ⟨m, ?_, ?_⟩
  ·unfold Lib.decFrom
   rw [digit_val hc]
   exact h1
  ·rw [h2, List.foldl_cons]
   congr 1
   have := UInt8.le_iff_toNat_le.1 hc.1
   simp at this
   omega
theorem atoi_digits {l : List UInt8} (h0 : l ≠ []) (h : ∀ c ∈ l, 48 ≤ c ∧ c ≤ 57) : Lib.atoi l = some (digitsV l) := by
 obtain ⟨m, h1, h2⟩ := dec_digits l 0 h
 match l, h0 with
 | c :: r, _ =>
  have hc := h c (by simp)
  have e1 := UInt8.le_iff_toNat_le.1 hc.1
  have n45 : (c == 45) = false := by
   rw [beq_eq_false_iff_ne]; rintro rfl; exact absurd e1 (by decide)
  have n43 : (c == 43) = false := by
   rw [beq_eq_false_iff_ne]; rintro rfl; exact absurd e1 (by decide)
  simp only [Lib.atoi, n45, n43, Bool.false_eq_true, if_false]
  have hd : Lib.decNat (c :: r) = some m := by
   unfold Lib.decNat
   first | exact h1 | simpa using h1
  rw [hd]
  show some (m : Int) = some (digitsV (c :: r))
  rw [h2]; rfl
theorem below_bytesWorld (w : World) (e : TypeId) (t : ByteArray) : Below w.heap.size w (Lib.bytesWorld w e t) := by
 unfold Lib.bytesWorld
 exact Lib.below_freeze ((Below.drew (Below.refl _ w)).alloc (Nat.le_refl _) _) (p := ⟨w.heap.size, _, none⟩) (Nat.le_refl _) _
theorem atoi198_any (s : ByteArray) (h0 : s.data.toList ≠ []) (hl : s.data.toList.length ≤ 18) (h : ∀ c ∈ s.data.toList, 48 ≤ c ∧ c ≤ 57) (w : World) :
 Calls Tryz.prog 198 #[.string s] w fun e w' => e = .returned (.tuple #[.int .i64 (digitsV s.data.toList), .nilIface]) ∧ Below w.heap.size w w' := by
 refine (Any.strconv_Atoi Tryz.lays172 s _ (by simpa using hl) (atoi_digits h0 h) w).mono ?_
 rintro e w' ⟨rfl, t, rfl⟩
 exact ⟨rfl, below_bytesWorld _ _ _⟩
set_option maxRecDepth 100000 in
set_option maxHeartbeats 4000000 in
theorem number180_ok (pb tb deep : Nat) (s : ByteArray) (pl : Int) (r : List Tok) (w : World) (h : Ps pb tb w (⟨2, s, pl⟩ :: r) deep) :
 Calls Tryz.prog 180 #[.pointer (some ⟨pb, 0, none⟩)] w fun e w' => e = .returned (.int .i64 (digitsV s.data.toList)) ∧ Ps pb tb w' r deep ∧ Bt pb w w' := by
 obtain ⟨_, h2⟩ := h.toks _ (List.mem_cons_self ..)
 obtain ⟨g1, g2, g3⟩ := h2 rfl
 have HA := Lib.hid (fun W => atoi198_any s g1 g2 g3 W)
 have HN := Lib.hid (next94_any pb tb deep 2 s pl r w h)
 have HP := Lib.hid (fun (W : World) (hb : Below w.heap.size w W) => pass167_any pb tb deep 2 s pl r W (h.below hb) (h.ends.tail (.inl (show (2 : Int) ≠ 0 by decide))))
 have hf0 := fun W => (fld51 (.int .u8 2) (.string s) (.int .i64 pl) W).1
 have hf1 := fun W => (fld51 (.int .u8 2) (.string s) (.int .i64 pl) W).2.1
 clear h h2 g1 g2 g3
 generalize digitsV s.data.toList = D at HA ⊢
 go_enter Tryz.func180, Tryz.ntmps180
 go_wp2_with fail
 refine HN.out.mono ?_
 rintro e w1 ⟨rfl, hb⟩
 have HB := Lib.hid hb
 clear hb
 go_wp2_with fail
 refine (HP.out _ HB.out).mono ?_
 rintro e w2 ⟨rfl, hp, hb⟩
 have HX := Lib.hid hp
 have HB2 := Lib.hid ((Bt.of_below (pb := pb) HB.out).trans hb)
 clear hp hb
 go_wp2_with fail
 refine (HA.out _).mono ?_
 rintro e w3 ⟨rfl, hb⟩
 have HX3 := Lib.hid (HX.out.below hb)
 have HB3 := Lib.hid (HB2.out.trans (.of_below hb))
 clear hb
 go_wp2_with fail
 all_goals go_ret
 all_goals exact ⟨rfl, HX3.out, HB3.out⟩
set_option maxRecDepth 100000 in
set_option maxHeartbeats 4000000 in
theorem number180_no (pb tb deep : Nat) (k : Int) (s : ByteArray) (pl : Int) (r : List Tok) (w : World) (h : Ps pb tb w (⟨k, s, pl⟩ :: r) deep) (hk : k ≠ 2) :
 Calls Tryz.prog 180 #[.pointer (some ⟨pb, 0, none⟩)] w fun e w' => e = .panicked (thr 170 pl) ∧ Bt pb w w' := by
 have HN := Lib.hid (next94_any pb tb deep k s pl r w h)
 have HF := Lib.hid (fun (W : World) (hb : Below w.heap.size w W) => fail45_any pb tb deep 170 k s pl r W (h.below hb))
 have hf0 := fun W => (fld51 (.int .u8 k) (.string s) (.int .i64 pl) W).1
 have q : (k != 2) = true := by simpa using hk
 clear h hk
 go_enter Tryz.func180, Tryz.ntmps180
 go_wp2_with fail
 refine HN.out.mono ?_
 rintro e w1 ⟨rfl, hb⟩
 have HB := Lib.hid hb
 clear hb
 go_wp2_with fail
 refine (HF.out _ HB.out).mono ?_
 rintro e w2 ⟨rfl, hb⟩
 have HB2 := Lib.hid ((Bt.of_below (pb := pb) HB.out).trans (.of_below hb))
 clear hb
 go_wp2_with fail
 exact ⟨rfl, rfl, HB2.out⟩
end Go.Proofs.YtpgdplmndnopbaaGreatDoor

/- The parser walked: what joins two. -/
namespace Go.Proofs.YtpgdplmndnopbaaGreatDoor
open Go.RowKit
set_option maxRecDepth 100000 in
set_option maxHeartbeats 4000000 in
theorem two184_any (kind : Int) (w : World) :
 Calls Tryz.prog 184 #[.int .u8 kind] w fun e w' => e = .returned (.func (.func 200) #[] #[.pointer (some ⟨w.heap.size, 0, none⟩)]) ∧ w' = w.alloc (.cells #[.int .u8 kind] 5) := by
 have hmf : ∀ (fn : Fn) (first cap : Array Value) (w : World), (Instr.makeFunc fn first cap).run Tryz.prog w = .ok (.func fn first cap) w := fun _ _ _ _ => rfl
 go_enter Tryz.func184, Tryz.ntmps184
 go_wp2_with fail
 all_goals go_ret
 all_goals exact ⟨rfl, rfl⟩
set_option maxRecDepth 100000 in
set_option maxHeartbeats 4000000 in
theorem both92_any (kind : Int) (w : World) :
 Calls Tryz.prog 92 #[.int .u8 kind] w fun e w' => e = .returned (.func (.func 141) #[] #[.pointer (some ⟨w.heap.size, 0, none⟩)]) ∧ w' = w.alloc (.cells #[.int .u8 kind] 5) := by
 have hmf : ∀ (fn : Fn) (first cap : Array Value) (w : World), (Instr.makeFunc fn first cap).run Tryz.prog w = .ok (.func fn first cap) w := fun _ _ _ _ => rfl
 go_enter Tryz.func92, Tryz.ntmps92
 go_wp2_with fail
 all_goals go_ret
 all_goals exact ⟨rfl, rfl⟩
set_option maxRecDepth 100000 in
set_option maxHeartbeats 4000000 in
theorem two200_any (kc : Nat) (kind k1 k2 : Int) (s1 s2 : ByteArray) (a1 a2 : Option Addr) (l1 c1 l2 c2 : Nat) (w : World) (hk : w.heap[kc]? = some (.cells #[.int .u8 kind] 5 (0, 0))) :
 Calls Tryz.prog 200 #[.agg #[.int .u8 k1, .string s1, .slice a1 l1 c1], .agg #[.int .u8 k2, .string s2, .slice a2 l2 c2], .pointer (some ⟨kc, 0, none⟩)] w fun e w' =>
  e = .returned (.agg #[.int .u8 kind, .string ⟨#[]⟩, .slice (some ⟨w.heap.size + 3, 0, none⟩) 2 2]) ∧ Below w.heap.size w w' ∧ w'.heap[w.heap.size + 3]? = some (.cells #[.int .u8 k1, .string s1, .slice a1 l1 c1, .int .u8 k2, .string s2, .slice a2 l2 c2] 61 (0, 0)) := by
 have c0 : w.cell? ⟨kc, 0, none⟩ = some (.int .u8 kind) := by rw [Lib.cell_of_heap hk]; rfl
 have c3 : ∀ o1 o2 o3, (((w.alloc o1).alloc o2).alloc o3).cell? ⟨kc, 0, none⟩ = some (.int .u8 kind) := fun o1 o2 o3 => by
  rw [Lib.cell_of_heap (hp_in (hp_in (hp_in hk)))]; rfl
 have HB : Hid (∀ o1 o2 o3 o4, Below w.heap.size w ((((w.alloc o1).alloc o2).alloc o3).alloc o4)) := by
  intro o1 o2 o3 o4
  exact ((((Below.refl _ w).alloc (Nat.le_refl _) _).alloc (by simp) _).alloc (by simp; omega) _).alloc (by simp; omega) _
 have HQ : Hid (∀ o1 o2 o3 o4, ((((w.alloc o1).alloc o2).alloc o3).alloc o4).heap[w.heap.size + 2]? = some o3 ∧ ((((w.alloc o1).alloc o2).alloc o3).alloc o4).heap[w.heap.size + 3]? = some o4) :=
  fun o1 o2 o3 o4 => ⟨hp_in (hp_top (by simp)), hp_top (by simp)⟩
 clear hk
 go_enter Tryz.func200, Tryz.ntmps200
 go_wp2_with fail
 refine And.intro rfl (Exists.intro _ (And.intro (results_cell_row rfl _ _ _ _ _ _ _ rfl (HQ.out _ _ _ _).1 Tryz.underlying61 rfl (by kernel_rfl)) ?_))
 exact ⟨rfl, HB.out _ _ _ _, (HQ.out _ _ _ _).2⟩
set_option maxRecDepth 100000 in
set_option maxHeartbeats 4000000 in
theorem both141_any (kc : Nat) (kind : Int) (k1 k2 lo1 hi1 lo2 hi2 : Int) (ls1 hs1 op1 ls2 hs2 op2 : Bool) (a1 a2 b1 b2 : Option Addr) (l1 c1 l2 c2 m1 d1 m2 d2 : Nat) (w : World) (hk : w.heap[kc]? = some (.cells #[.int .u8 kind] 5 (0, 0))) :
 Calls Tryz.prog 141 #[.agg #[.int .u8 k1, .slice a1 l1 c1, .slice b1 m1 d1, .int .i64 lo1, .bool ls1, .int .i64 hi1, .bool hs1, .bool op1], .agg #[.int .u8 k2, .slice a2 l2 c2, .slice b2 m2 d2, .int .i64 lo2, .bool ls2, .int .i64 hi2, .bool hs2, .bool op2], .pointer (some ⟨kc, 0, none⟩)] w fun e w' =>
  e = .returned (.agg #[.int .u8 kind, .slice none 0 0, .slice (some ⟨w.heap.size + 3, 0, none⟩) 2 2, .int .i64 0, .bool false, .int .i64 0, .bool false, .bool false]) ∧ Below w.heap.size w w' ∧
  w'.heap[w.heap.size + 3]? = some (.cells #[.int .u8 k1, .slice a1 l1 c1, .slice b1 m1 d1, .int .i64 lo1, .bool ls1, .int .i64 hi1, .bool hs1, .bool op1, .int .u8 k2, .slice a2 l2 c2, .slice b2 m2 d2, .int .i64 lo2, .bool ls2, .int .i64 hi2, .bool hs2, .bool op2] 28 (0, 0)) := by
 have c0 : w.cell? ⟨kc, 0, none⟩ = some (.int .u8 kind) := by rw [Lib.cell_of_heap hk]; rfl
 have c3 : ∀ o1 o2 o3, (((w.alloc o1).alloc o2).alloc o3).cell? ⟨kc, 0, none⟩ = some (.int .u8 kind) := fun o1 o2 o3 => by
  rw [Lib.cell_of_heap (hp_in (hp_in (hp_in hk)))]; rfl
 have HB : Hid (∀ o1 o2 o3 o4, Below w.heap.size w ((((w.alloc o1).alloc o2).alloc o3).alloc o4)) := by
  intro o1 o2 o3 o4
  exact ((((Below.refl _ w).alloc (Nat.le_refl _) _).alloc (by simp) _).alloc (by simp; omega) _).alloc (by simp; omega) _
 have HQ : Hid (∀ o1 o2 o3 o4, ((((w.alloc o1).alloc o2).alloc o3).alloc o4).heap[w.heap.size + 2]? = some o3 ∧ ((((w.alloc o1).alloc o2).alloc o3).alloc o4).heap[w.heap.size + 3]? = some o4) :=
  fun o1 o2 o3 o4 => ⟨hp_in (hp_top (by simp)), hp_top (by simp)⟩
 clear hk
 go_enter Tryz.func141, Tryz.ntmps141
 go_wp2_with fail
 refine And.intro rfl (Exists.intro _ (And.intro (results_cell_row rfl _ _ _ _ _ _ _ rfl (HQ.out _ _ _ _).1 Tryz.underlying28 rfl (by kernel_rfl)) ?_))
 exact ⟨rfl, HB.out _ _ _ _, (HQ.out _ _ _ _).2⟩
end Go.Proofs.YtpgdplmndnopbaaGreatDoor
