/- What the world must hold (the library's variables); strconv.ParseUint at 62 bits, strconv.FormatUint, in base ten. -/
import Derived.Lib.ItoaMem
import Derived.Test.YtabpfbgcdmejbaaDoorLexI
namespace Go.Proofs.YtabpfbgcdmejbaaDoor
open Go.RowKit Go.Shelf Go.Sort

/-- The library's variables hold what they hold: the greatest length that a search takes (some number), the two errors, the powers of ten. -/
def Rdy (w : World) : Prop :=
  (∃ m, w.cell? ⟨0, 0, none⟩ = some (.int .i64 m)) ∧ (∃ te pe, w.cell? ⟨1, 0, none⟩ = some (.iface te pe)) ∧ (∃ te pe, w.cell? ⟨2, 0, none⟩ = some (.iface te pe)) ∧
  ∃ t fz, w.heap[3]? = some (.cells ((Lib.pow10Tab.map fun z => Value.int .u64 z).toArray) t fz)
theorem Rdy.lt {w : World} (h : Rdy w) : 4 ≤ w.heap.size := by
  obtain ⟨_, _, _, t, fz, h⟩ := h
  have := (Array.getElem?_eq_some_iff.1 h).1
  omega
theorem Rdy.belowB {w w' : World} {B : Nat} (hB : 4 ≤ B) (h : Rdy w) (hb : Below B w w') : Rdy w' := by
  obtain ⟨⟨m, h1⟩, ⟨t2, p2, h2⟩, ⟨t3, p3, h3⟩, t, fz, h4⟩ := h
  exact ⟨⟨m, (hb.cell (p := ⟨0, 0, none⟩) (show 0 < B by omega)).trans h1⟩, ⟨t2, p2, (hb.cell (p := ⟨1, 0, none⟩) (show 1 < B by omega)).trans h2⟩, ⟨t3, p3, (hb.cell (p := ⟨2, 0, none⟩) (show 2 < B by omega)).trans h3⟩, t, fz, (hb.block 3 (by omega)).trans h4⟩
theorem Rdy.below {w w' : World} (h : Rdy w) (hb : Below w.heap.size w w') : Rdy w' := h.belowB h.lt hb
theorem Rdy.tab {w : World} (h : Rdy w) : Lib.TabIs Tryd.prog w "internal/strconv.uint64pow10" .u64 Lib.pow10Tab := by
  obtain ⟨_, _, _, t, fz, h4⟩ := h
  unfold Lib.TabIs World.var?
  rw [show Program.globalNamed Tryd.prog _ = some 3 from by kernel_rfl]
  simp [h4]

/-- The number, and no error; or an error. -/
def Parsed (l : List UInt8) (u : Nat) (ev : Value) : Prop :=
  match Lib.parseUintM 4611686018427387903 0 l with
  | .ok n => u = n ∧ ev = .nilIface
  | _ => ∃ t p, ev = .iface t p

set_option maxHeartbeats 4000000 in
set_option maxRecDepth 100000 in
theorem parse49_any (s : ByteArray) (hne : s.size ≠ 0) (hlim : s.size ≤ 281474976710656) (w : World) (hr : Rdy w) :
    Calls Tryd.prog 83 #[.string s, .int .i64 10, .int .i64 62] w fun e w' => (∃ u ev, e = .returned (.tuple #[.int .u64 (u : Nat), ev]) ∧ Parsed s.data.toList u ev) ∧ Below w.heap.size w w' := by
  have hI := parse58_any s hne (by omega) w
  have hb0 : Below w.heap.size w (Lib.bytesWorld w 5 s) := Lib.bytesWorld_below _ _ _
  generalize Lib.bytesWorld w 5 s = W1 at hI hb0
  have hr1 := hr.below hb0
  rcases hp : Lib.parseUintM 4611686018427387903 0 s.data.toList with n | _ | _
  · rw [hp] at hI
    have HP : Hid (Parsed s.data.toList n .nilIface) := by rw [Hid, Parsed, hp]; exact ⟨rfl, rfl⟩
    clear hp
    have HI : Hid (Calls Tryd.prog 89 #[.string s, .int .i64 10, .int .i64 62] w fun e w' => e = .returned (.tuple #[.int .u64 n, .nilIface]) ∧ w' = W1) := hI
    clear hI
    go_enter Tryd.func83, Tryd.ntmps83
    go_wp2_with fail
    refine HI.out.mono ?_
    rintro e w1 ⟨rfl, rfl⟩
    go_wp2_with fail
    go_ret2
    exact ⟨⟨n, _, rfl, HP.out⟩, hb0⟩
  · rw [hp] at hI
    have HP : Hid (∀ t p, Parsed s.data.toList 0 (.iface t p)) := fun t p => by rw [Parsed, hp]; exact ⟨t, p, rfl⟩
    clear hp
    have HI : Hid (Calls Tryd.prog 89 #[.string s, .int .i64 10, .int .i64 62] w fun e w' => e = .returned (.tuple #[.int .u64 0, .iface 116 (.int .i64 2)]) ∧ w' = W1) := hI
    clear hI
    obtain ⟨te, pe, hv⟩ := hr1.2.1
    have HE : Hid (Calls Tryd.prog 90 #[.string ⟨#[80, 97, 114, 115, 101, 85, 105, 110, 116]⟩, .string s, .int .i64 10, .int .i64 62, .iface 116 (.int .i64 2)] W1 fun e w' => ∃ N, e = .returned (.iface 119 (.pointer (some ⟨N, 0, none⟩))) ∧ W1.heap.size ≤ N ∧ w'.heap[N]? = some (.cells #[.string ⟨#[80, 97, 114, 115, 101, 85, 105, 110, 116]⟩, .string s, .iface te pe] 130 (0, 0)) ∧ Below W1.heap.size W1 w') :=
      AnyPu.strconv_toError_syntax (ρ := Tryd.laysPu14_ren) { Tryd.laysPu14 with } ⟨#[80, 97, 114, 115, 101, 85, 105, 110, 116]⟩ s 10 62 (.iface te pe) W1 hlim hv (.inr ⟨te, pe, rfl⟩)
    clear hv
    go_enter Tryd.func83, Tryd.ntmps83
    go_wp2_with fail
    refine HI.out.mono ?_
    rintro e w1 ⟨rfl, rfl⟩
    go_wp2_with fail
    refine HE.out.mono ?_
    rintro e w2 ⟨N, rfl, _, _, h3⟩
    go_wp2_with fail
    go_ret2
    exact ⟨⟨0, _, rfl, HP.out _ _⟩, hb0.trans (h3.mono hb0.size)⟩
  · rw [hp] at hI
    have HP : Hid (∀ t p, Parsed s.data.toList 4611686018427387903 (.iface t p)) := fun t p => by rw [Parsed, hp]; exact ⟨t, p, rfl⟩
    clear hp
    have HI : Hid (Calls Tryd.prog 89 #[.string s, .int .i64 10, .int .i64 62] w fun e w' => e = .returned (.tuple #[.int .u64 4611686018427387903, .iface 116 (.int .i64 1)]) ∧ w' = W1) := hI
    clear hI
    obtain ⟨te, pe, hv⟩ := hr1.2.2.1
    have HE : Hid (Calls Tryd.prog 90 #[.string ⟨#[80, 97, 114, 115, 101, 85, 105, 110, 116]⟩, .string s, .int .i64 10, .int .i64 62, .iface 116 (.int .i64 1)] W1 fun e w' => ∃ N, e = .returned (.iface 119 (.pointer (some ⟨N, 0, none⟩))) ∧ W1.heap.size ≤ N ∧ w'.heap[N]? = some (.cells #[.string ⟨#[80, 97, 114, 115, 101, 85, 105, 110, 116]⟩, .string s, .iface te pe] 130 (0, 0)) ∧ Below W1.heap.size W1 w') :=
      AnyPu.strconv_toError_range (ρ := Tryd.laysPu14_ren) { Tryd.laysPu14 with } ⟨#[80, 97, 114, 115, 101, 85, 105, 110, 116]⟩ s 10 62 (.iface te pe) W1 hlim hv (.inr ⟨te, pe, rfl⟩)
    clear hv
    go_enter Tryd.func83, Tryd.ntmps83
    go_wp2_with fail
    refine HI.out.mono ?_
    rintro e w1 ⟨rfl, rfl⟩
    go_wp2_with fail
    refine HE.out.mono ?_
    rintro e w2 ⟨N, rfl, _, _, h3⟩
    go_wp2_with fail
    go_ret2
    exact ⟨⟨4611686018427387903, _, rfl, HP.out _ _⟩, hb0.trans (h3.mono hb0.size)⟩

theorem holds_zero0 (w : World) (T : TypeId) (nd : Nat) (hs : nd ≤ 24) : Holds (fun (b : UInt8) => Value.int .u8 (b.toNat : Int)) (w.alloc (.cells Lib.zeros24 T)) w.heap.size 0 (Array.replicate nd (0 : UInt8)) := fun j hj => by
  have hj' : j < nd := by simpa using hj
  refine ⟨?_, World.frozen?_alloc_new _ _ _ _⟩
  rw [World.cell?_alloc_new, Lib.zeros24_at _ (by omega), getElem!_pos _ j hj]
  simp
theorem putRow_below (w : World) (o : Obj) (dk : Array UInt8) (k : Nat) : Below w.heap.size w ((putRow (fun (b : UInt8) => Value.int .u8 (b.toNat : Int)) (w.alloc o) w.heap.size 0 dk).drewN k) := by
  have h : ∃ os, putRow (fun (b : UInt8) => Value.int .u8 (b.toNat : Int)) (w.alloc o) w.heap.size 0 dk = grow w os := by
    rw [alloc_eq_grow]
    obtain ⟨os', _, e⟩ := putRow_grow_new (fun (b : UInt8) => Value.int .u8 (b.toNat : Int)) w #[o] w.heap.size 0 dk (Nat.le_refl _)
    exact ⟨os', by rw [e]⟩
  obtain ⟨os, e⟩ := h
  rw [e]
  refine ⟨rfl, rfl, rfl, ?_, ?_⟩
  · simp [grow, World.drewN]
  · intro i hi
    simp [grow, World.drewN, Array.getElem?_append, hi]

set_option maxHeartbeats 6400000 in
set_option maxRecDepth 100000 in
theorem format60_any (u : Nat) (hu : u < 18446744073709551616) (w : World) (hr : Rdy w) :
    Calls Tryd.prog 91 #[.int .u64 u, .int .i64 10] w fun e w' => e = .returned (.string (bsOf (Lib.decDigits u))) ∧ Below w.heap.size w w' := by
  by_cases hs : u < 100
  · have h100 : (u : Int) < 100 := by omega
    go_enter Tryd.func91, Tryd.ntmps91
    go_wp2_with fail
    refine (Tryd.internal_strconv_small u hs _).mono ?_
    rintro e w' ⟨rfl, rfl⟩
    go_wp2_with fail
    go_ret
    exact ⟨rfl, Below.refl _ _⟩
  · have hu1 : 1 ≤ u := by omega
    have hnd20 : Lib.nDigits u ≤ 20 := by have := Lib.numDigits_eq u hu1 hu; split at this <;> omega
    have hal : Tryd.prog.arrayLen 123 = 24 := by simp [Program.arrayLen, Tryd.underlying123]
    have hsl1 : ∀ W, (Instr.sliceAt 123 (.pointer (some ⟨w.heap.size, 0, none⟩)) none (some (.int .i64 (Lib.nDigits u : Int))) none).run Tryd.prog W = .ok (.slice (some ⟨w.heap.size, 0, none⟩) (Lib.nDigits u) 24) W := fun W => by
      rw [run_sliceAt_array_h W 123 ⟨w.heap.size, 0, none⟩ (by simp [Program.arrayLen, Program.elem, Tryd.underlying123]) .i64 (Lib.nDigits u : Int) (by omega) (by rw [hal]; omega)]
      go_simp
    have hH0 := holds_zero0 w 123 (Lib.nDigits u) (by omega)
    have hfmt := Tryd.internal_strconv_formatBase10 w.heap.size 0 24 u (Array.replicate (Lib.nDigits u) 0) (w.alloc (.cells Lib.zeros24 123)) hH0 (by rw [Array.size_replicate]; exact Lib.lt_pow_nDigits u) hu (by rw [Array.size_replicate]; omega)
    rw [Array.size_replicate] at hfmt
    have HH0 := Lib.hid hH0
    have HF := Lib.hid hfmt
    have htab := Lib.hid (Lib.tabIs_alloc hr.tab (.cells Lib.zeros24 123))
    clear hH0 hal hfmt
    have h100 : ¬ (u : Int) < 100 := by omega
    go_enter Tryd.func91, Tryd.ntmps91
    go_wp2_with (go_at_call 99; refine (Tryd.internal_strconv_numDigits u hu1 hu _ htab.out).mono ?_; rintro e w' ⟨rfl, rfl⟩)
    refine HF.out.mono ?_
    rintro e w' ⟨rfl, k, v', dk, rfl, hF⟩
    have hcv : (convert 118 9 (.slice (some ⟨w.heap.size, 0, none⟩) (Lib.nDigits u) 24)).run Tryd.prog ((putRow (fun (b : UInt8) => Value.int .u8 (b.toNat : Int)) (w.alloc (.cells Lib.zeros24 123)) w.heap.size 0 dk).drewN k) = .ok (.string ⟨(Lib.decDigits u).toArray⟩) ((putRow (fun (b : UInt8) => Value.int .u8 (b.toNat : Int)) (w.alloc (.cells Lib.zeros24 123)) w.heap.size 0 dk).drewN k) := by
      have h := run_convert_bytes_back (P := Tryd.prog) ((putRow (fun (b : UInt8) => Value.int .u8 (b.toNat : Int)) (w.alloc (.cells Lib.zeros24 123)) w.heap.size 0 dk).drewN k) 118 9 5 ⟨w.heap.size, 0, none⟩ 24 (Lib.decDigits u) Tryd.underlying118 Tryd.underlying5 Tryd.underlying9 (fun j hj => by
        rw [Lib.row_is_numeral hF j hj, Lib.add_plain, World.cell?_drewN]
        exact cell?_putRow (fun (b : UInt8) => Value.int .u8 (b.toNat : Int)) _ w.heap.size 0 _ dk HH0.out (by rw [hF.size, Array.size_replicate]) j (by rw [hF.size]; rw [Lib.decDigits_length] at hj; exact hj))
      rw [Lib.decDigits_length] at h
      exact h
    go_wp2_with fail
    go_ret
    exact ⟨rfl, putRow_below _ _ _ _⟩

set_option maxHeartbeats 1000000 in
set_option maxRecDepth 100000 in
theorem format50_any (u : Nat) (hu : u < 18446744073709551616) (w : World) (hr : Rdy w) :
    Calls Tryd.prog 84 #[.int .u64 u, .int .i64 10] w fun e w' => e = .returned (.string (bsOf (Lib.decDigits u))) ∧ Below w.heap.size w w' := by
  go_enter Tryd.func84, Tryd.ntmps84
  go_wp2_with fail
  refine (format60_any u hu w hr).mono ?_
  rintro e w' ⟨rfl, hb⟩
  go_wp2_with fail
  go_ret
  exact ⟨rfl, hb⟩
end Go.Proofs.YtabpfbgcdmejbaaDoor
