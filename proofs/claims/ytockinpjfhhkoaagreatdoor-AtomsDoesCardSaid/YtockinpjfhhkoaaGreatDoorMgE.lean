/- (What the port leaves of the builders' contracts: nothing.) -/
import Derived.Test.YtockinpjfhhkoaaGreatDoorShelf
import Derived.Lib.ParseIntBMem
import Derived.Lib.ConvBytes
import Derived.Lib.Hide
import Derived.Laws.Strings3
import Derived.Laws.Closers25
import Derived.Laws.Closers25b
import Derived.WalkKit
import Derived.BigCall
import Derived.BigGuard
import Derived.LoopTactic
import Derived.Shelf.Pu.ToError
import Derived.Shelf.Pu.ToErrorRange
import Derived.Shelf.Pu.Lower
import Derived.Test.YtockinpjfhhkoaaGreatDoorMgA
import Derived.Lib.ItoaMem
import Derived.Lib.ParseIntB
import Derived.Lib.ItoaNum
import Derived.Lib.ItoaLen
import Derived.Test.YtockinpjfhhkoaaGreatDoorMgC


/- strconv.ParseUint in base ten, at 62 bits; strconv.FormatUint in base ten. -/
namespace Go.Proofs.YtockinpjfhhkoaaGreatDoor
open Go.RowKit Go.Shelf

set_option maxHeartbeats 32000000 in
set_option maxRecDepth 100000 in
/-- internal/strconv.ParseUint(s, 10, 62), at a text that is not empty. -/
theorem parse58_any (t : ByteArray) (hne : t.size ≠ 0) (hmax : t.size ≤ 9223372036854775806) (w : World) :
    Calls Tryz.prog 251 #[.string t, .int .i64 10, .int .i64 62] w fun e w' => e = .returned (Lib.uintTupleM 297 4611686018427387903 (Lib.parseUintM 4611686018427387903 0 t.data.toList)) ∧ w' = Lib.bytesWorld w 5 t := by
  have hemp : t.toList.isEmpty = false := by
    rw [← decide_eq_emptyBytes]
    exact decide_eq_false (fun h => hne (by rw [h]; rfl))
  have hcv := Lib.run_convert_string_bytes (P := Tryz.prog) w 9 299 5 t (u := .string) Tryz.underlying9 Tryz.underlying299 Tryz.underlying5
  have hB : ∀ j, j < t.size → (Lib.bytesWorld w 5 t).cell? ⟨w.heap.size, j, none⟩ = some (.int .u8 (t.data.toList.getD j 0).toNat) := fun j hj => Lib.bytesWorld_cell w 5 t j hj
  obtain ⟨W1, hW1⟩ : ∃ W1, W1 = Lib.bytesWorld w 5 t := ⟨_, rfl⟩
  rw [← hW1] at hcv hB ⊢
  clear hW1
  obtain ⟨bs, hL⟩ : ∃ bs, bs = t.data.toList := ⟨_, rfl⟩
  have hLn : bs.length = t.size := by rw [hL, Lib.size_eq]
  rw [← hL] at hB ⊢
  clear hL
  have hmv : IntKind.u64.wrap (IntKind.u64.wrap 4611686018427387904 - 1) = 4611686018427387903 := by
    rw [IntKind.wrap_u64, IntKind.wrap_u64]
    decide
  go_enter Tryz.func251, Tryz.ntmps251
  go_wp2
  go_loop [12, 13, 101] (fun vu vn vi => ∃ (k acc : Nat) (a : Int), vu = .bool false ∧ vn = .int .u64 a ∧ vi = .int .i64 k ∧ k ≤ t.size ∧ Hid (a = (acc : Int) ∧ acc ≤ 4611686018427387903 ∧ Lib.parseUintM 4611686018427387903 0 bs = Lib.parseUintM 4611686018427387903 acc (bs.drop k)))
    (fun _ _ vi => t.size - (intOf vi).toNat)
  case atStart => exact ⟨0, 0, 0, rfl, rfl, rfl, by omega, rfl, by omega, rfl⟩
  case round =>
    obtain ⟨k, acc, a, rfl, rfl, rfl, hk, hh⟩ := hrel
    obtain ⟨ha, hacc, hdec⟩ := hh.out
    clear hh
    have a0 : 0 ≤ a := by omega
    have a1 : a ≤ 4611686018427387903 := by omega
    by_cases hkn : k < t.size
    · have hc := hB k hkn
      have hdrop : bs.drop k = bs[k]'(by omega) :: bs.drop (k + 1) := List.drop_eq_getElem_cons (by omega)
      have hget : bs.getD k 0 = bs[k]'(by omega) := by simp [List.getD, List.getElem?_eq_getElem (show k < bs.length by omega)]
      rw [hdrop] at hdec
      rw [hget] at hc
      generalize bs[k]'(by omega) = c at hc hdec
      have hc256 : c.toNat < 256 := c.toNat_lt
      clear hB hdrop hget
      by_cases hdig : 48 ≤ c.toNat ∧ c.toNat ≤ 57
      · obtain ⟨hd0, hd1⟩ := hdig
        by_cases hcut : 1844674407370955162 ≤ acc
        · have hF : Lib.parseUintM 4611686018427387903 acc (c :: bs.drop (k + 1)) = .range := by simp [Lib.parseUintM, hd0, hd1, hcut]
          rw [hF] at hdec
          have icut : 1844674407370955162 ≤ a := by omega
          clear hcut hacc hF ha
          go_wp2
          go_ret2
          exact ⟨rfl, rfl⟩
        · by_cases hov : 4611686018427387903 < acc * 10 + (c.toNat - 48)
          · have hF : Lib.parseUintM 4611686018427387903 acc (c :: bs.drop (k + 1)) = .range := by simp [Lib.parseUintM, hd0, hd1, hcut, hov]
            rw [hF] at hdec
            have icut : a < 1844674407370955162 := by omega
            have iov : 4611686018427387903 < a * 10 + ((c.toNat : Int) - 48) := by omega
            by_cases hw64 : 18446744073709551616 ≤ a * 10 + ((c.toNat : Int) - 48)
            · have hwr : IntKind.u64.wrap (a * 10 + ((c.toNat : Int) - 48)) = a * 10 + ((c.toNat : Int) - 48) - 18446744073709551616 := by
                rw [IntKind.wrap_u64]
                omega
              clear hcut hacc hF hov ha
              go_wp2
              go_ret2
              exact ⟨rfl, rfl⟩
            · have hw2 : a * 10 + ((c.toNat : Int) - 48) < 18446744073709551616 := by omega
              have hwr : IntKind.u64.wrap (a * 10 + ((c.toNat : Int) - 48)) = a * 10 + ((c.toNat : Int) - 48) := by
                rw [IntKind.wrap_u64]
                omega
              clear hcut hacc hF hov ha hw64
              go_wp2
              go_ret2
              exact ⟨rfl, rfl⟩
          · have hF : Lib.parseUintM 4611686018427387903 acc (c :: bs.drop (k + 1)) = Lib.parseUintM 4611686018427387903 (acc * 10 + (c.toNat - 48)) (bs.drop (k + 1)) := by simp [Lib.parseUintM, hd0, hd1, hcut, hov]
            have HN : Hid (a * 10 + ((c.toNat : Int) - 48) = ((acc * 10 + (c.toNat - 48) : Nat) : Int) ∧ acc * 10 + (c.toNat - 48) ≤ 4611686018427387903 ∧ Lib.parseUintM 4611686018427387903 0 bs = Lib.parseUintM 4611686018427387903 (acc * 10 + (c.toNat - 48)) (bs.drop (k + 1))) := Lib.hid ⟨by omega, by omega, hdec.trans hF⟩
            have icut : a < 1844674407370955162 := by omega
            have iov : a * 10 + ((c.toNat : Int) - 48) ≤ 4611686018427387903 := by omega
            clear hcut hacc hF hov hdec ha
            go_wp2
            refine ⟨⟨k + 1, acc * 10 + (c.toNat - 48), a * 10 + ((c.toNat : Int) - 48), rfl, (by first | rfl | (congr 1; omega)), (by first | rfl | (congr 1; omega)), by omega, HN⟩, by simp [intOf]; omega⟩
      · have hF : Lib.parseUintM 4611686018427387903 acc (c :: bs.drop (k + 1)) = Lib.NumEnd.syntax := by simp [Lib.parseUintM, hdig]
        rw [hF] at hdec
        clear hacc hF ha
        have hv0 := bits_lo_u8 .or (c.toNat : Int) 32
        have hv1 := bits_hi_u8 .or (c.toNat : Int) 32
        have hu0 := bits_lo_u8 .or 95 32
        have hu1 := bits_hi_u8 .or 95 32
        go_wp2
        all_goals go_ret2
        all_goals first | exact ⟨rfl, rfl⟩ | exact ⟨by rw [hdec]; rfl, rfl⟩
    · have hkk : k = t.size := by omega
      subst hkk
      have hF : Lib.parseUintM 4611686018427387903 acc (bs.drop t.size) = .ok acc := by rw [List.drop_eq_nil_of_le (by omega)]; rfl
      rw [hF] at hdec
      subst ha
      clear hacc hF a0 a1
      go_wp2
      go_ret2
      exact ⟨rfl, rfl⟩
end Go.Proofs.YtockinpjfhhkoaaGreatDoor

/- What the world must hold (the library's variables); strconv.ParseUint at 62 bits, strconv.FormatUint, in base ten. -/
namespace Go.Proofs.YtockinpjfhhkoaaGreatDoor
open Go.RowKit Go.Shelf Go.Sort

/-- The library's variables hold what they hold: the greatest length that a search takes (some number), the two errors, the powers of ten. -/
def Rdy (w : World) : Prop :=
  (∃ m, w.cell? ⟨0, 0, none⟩ = some (.int .i64 m)) ∧ (∃ te pe, w.cell? ⟨1, 0, none⟩ = some (.iface te pe)) ∧ (∃ te pe, w.cell? ⟨2, 0, none⟩ = some (.iface te pe)) ∧
  ∃ t fz, w.heap[3]? = some (.cells ((Lib.pow10Tab.map fun z => Value.int .u64 z).toArray) t fz)
theorem Rdy.lt {w : World} (h : Rdy w) : 4 ≤ w.heap.size := by
  obtain ⟨_, _, _, t, fz, h⟩ := h
  have := (Array.getElem?_eq_some_iff.1 h).1
  omega
theorem Rdy.belowB {w w' : World} {B : Nat} (hB : 4 ≤ B) (h : Rdy w) (hb : Below B w w') : Rdy w' := by
  obtain ⟨⟨m, h1⟩, ⟨t2, p2, h2⟩, ⟨t3, p3, h3⟩, t, fz, h4⟩ := h
  exact ⟨⟨m, (hb.cell (p := ⟨0, 0, none⟩) (show 0 < B by omega)).trans h1⟩, ⟨t2, p2, (hb.cell (p := ⟨1, 0, none⟩) (show 1 < B by omega)).trans h2⟩, ⟨t3, p3, (hb.cell (p := ⟨2, 0, none⟩) (show 2 < B by omega)).trans h3⟩, t, fz, (hb.block 3 (by omega)).trans h4⟩
theorem Rdy.below {w w' : World} (h : Rdy w) (hb : Below w.heap.size w w') : Rdy w' := h.belowB h.lt hb
theorem Rdy.tab {w : World} (h : Rdy w) : Lib.TabIs Tryz.prog w "internal/strconv.uint64pow10" .u64 Lib.pow10Tab := by
  obtain ⟨_, _, _, t, fz, h4⟩ := h
  unfold Lib.TabIs World.var?
  rw [show Program.globalNamed Tryz.prog _ = some 3 from by kernel_rfl]
  simp [h4]

/-- The number, and no error; or an error. -/
def Parsed (l : List UInt8) (u : Nat) (ev : Value) : Prop :=
  match Lib.parseUintM 4611686018427387903 0 l with
  | .ok n => u = n ∧ ev = .nilIface
  | _ => ∃ t p, ev = .iface t p

set_option maxHeartbeats 4000000 in
set_option maxRecDepth 100000 in
theorem parse49_any (s : ByteArray) (hne : s.size ≠ 0) (hlim : s.size ≤ 281474976710656) (w : World) (hr : Rdy w) :
    Calls Tryz.prog 238 #[.string s, .int .i64 10, .int .i64 62] w fun e w' => (∃ u ev, e = .returned (.tuple #[.int .u64 (u : Nat), ev]) ∧ Parsed s.data.toList u ev) ∧ Below w.heap.size w w' := by
  have hI := parse58_any s hne (by omega) w
  have hb0 : Below w.heap.size w (Lib.bytesWorld w 5 s) := Lib.bytesWorld_below _ _ _
  generalize Lib.bytesWorld w 5 s = W1 at hI hb0
  have hr1 := hr.below hb0
  rcases hp : Lib.parseUintM 4611686018427387903 0 s.data.toList with n | _ | _
  · rw [hp] at hI
    have HP : Hid (Parsed s.data.toList n .nilIface) := by rw [Hid, Parsed, hp]; exact ⟨rfl, rfl⟩
    clear hp
    have HI : Hid (Calls Tryz.prog 251 #[.string s, .int .i64 10, .int .i64 62] w fun e w' => e = .returned (.tuple #[.int .u64 n, .nilIface]) ∧ w' = W1) := hI
    clear hI
    go_enter Tryz.func238, Tryz.ntmps238
    go_wp2_with fail
    refine HI.out.mono ?_
    rintro e w1 ⟨rfl, rfl⟩
    go_wp2_with fail
    go_ret2
    exact ⟨⟨n, _, rfl, HP.out⟩, hb0⟩
  · rw [hp] at hI
    have HP : Hid (∀ t p, Parsed s.data.toList 0 (.iface t p)) := fun t p => by rw [Parsed, hp]; exact ⟨t, p, rfl⟩
    clear hp
    have HI : Hid (Calls Tryz.prog 251 #[.string s, .int .i64 10, .int .i64 62] w fun e w' => e = .returned (.tuple #[.int .u64 0, .iface 297 (.int .i64 2)]) ∧ w' = W1) := hI
    clear hI
    obtain ⟨te, pe, hv⟩ := hr1.2.1
    have HE : Hid (Calls Tryz.prog 252 #[.string ⟨#[80, 97, 114, 115, 101, 85, 105, 110, 116]⟩, .string s, .int .i64 10, .int .i64 62, .iface 297 (.int .i64 2)] W1 fun e w' => ∃ N, e = .returned (.iface 300 (.pointer (some ⟨N, 0, none⟩))) ∧ W1.heap.size ≤ N ∧ w'.heap[N]? = some (.cells #[.string ⟨#[80, 97, 114, 115, 101, 85, 105, 110, 116]⟩, .string s, .iface te pe] 318 (0, 0)) ∧ Below W1.heap.size W1 w') :=
      AnyPu.strconv_toError_syntax (ρ := Tryz.laysPu14_ren) { Tryz.laysPu14 with } ⟨#[80, 97, 114, 115, 101, 85, 105, 110, 116]⟩ s 10 62 (.iface te pe) W1 hlim hv (.inr ⟨te, pe, rfl⟩)
    clear hv
    go_enter Tryz.func238, Tryz.ntmps238
    go_wp2_with fail
    refine HI.out.mono ?_
    rintro e w1 ⟨rfl, rfl⟩
    go_wp2_with fail
    refine HE.out.mono ?_
    rintro e w2 ⟨N, rfl, _, _, h3⟩
    go_wp2_with fail
    go_ret2
    exact ⟨⟨0, _, rfl, HP.out _ _⟩, hb0.trans (h3.mono hb0.size)⟩
  · rw [hp] at hI
    have HP : Hid (∀ t p, Parsed s.data.toList 4611686018427387903 (.iface t p)) := fun t p => by rw [Parsed, hp]; exact ⟨t, p, rfl⟩
    clear hp
    have HI : Hid (Calls Tryz.prog 251 #[.string s, .int .i64 10, .int .i64 62] w fun e w' => e = .returned (.tuple #[.int .u64 4611686018427387903, .iface 297 (.int .i64 1)]) ∧ w' = W1) := hI
    clear hI
    obtain ⟨te, pe, hv⟩ := hr1.2.2.1
    have HE : Hid (Calls Tryz.prog 252 #[.string ⟨#[80, 97, 114, 115, 101, 85, 105, 110, 116]⟩, .string s, .int .i64 10, .int .i64 62, .iface 297 (.int .i64 1)] W1 fun e w' => ∃ N, e = .returned (.iface 300 (.pointer (some ⟨N, 0, none⟩))) ∧ W1.heap.size ≤ N ∧ w'.heap[N]? = some (.cells #[.string ⟨#[80, 97, 114, 115, 101, 85, 105, 110, 116]⟩, .string s, .iface te pe] 318 (0, 0)) ∧ Below W1.heap.size W1 w') :=
      AnyPu.strconv_toError_range (ρ := Tryz.laysPu14_ren) { Tryz.laysPu14 with } ⟨#[80, 97, 114, 115, 101, 85, 105, 110, 116]⟩ s 10 62 (.iface te pe) W1 hlim hv (.inr ⟨te, pe, rfl⟩)
    clear hv
    go_enter Tryz.func238, Tryz.ntmps238
    go_wp2_with fail
    refine HI.out.mono ?_
    rintro e w1 ⟨rfl, rfl⟩
    go_wp2_with fail
    refine HE.out.mono ?_
    rintro e w2 ⟨N, rfl, _, _, h3⟩
    go_wp2_with fail
    go_ret2
    exact ⟨⟨4611686018427387903, _, rfl, HP.out _ _⟩, hb0.trans (h3.mono hb0.size)⟩

theorem holds_zero0 (w : World) (T : TypeId) (nd : Nat) (hs : nd ≤ 24) : Holds (fun (b : UInt8) => Value.int .u8 (b.toNat : Int)) (w.alloc (.cells Lib.zeros24 T)) w.heap.size 0 (Array.replicate nd (0 : UInt8)) := fun j hj => by
  have hj' : j < nd := by simpa using hj
  refine ⟨?_, World.frozen?_alloc_new _ _ _ _⟩
  rw [World.cell?_alloc_new, Lib.zeros24_at _ (by omega), getElem!_pos _ j hj]
  simp
theorem putRow_below (w : World) (o : Obj) (dk : Array UInt8) (k : Nat) : Below w.heap.size w ((putRow (fun (b : UInt8) => Value.int .u8 (b.toNat : Int)) (w.alloc o) w.heap.size 0 dk).drewN k) := by
  have h : ∃ os, putRow (fun (b : UInt8) => Value.int .u8 (b.toNat : Int)) (w.alloc o) w.heap.size 0 dk = grow w os := by
    rw [alloc_eq_grow]
    obtain ⟨os', _, e⟩ := putRow_grow_new (fun (b : UInt8) => Value.int .u8 (b.toNat : Int)) w #[o] w.heap.size 0 dk (Nat.le_refl _)
    exact ⟨os', by rw [e]⟩
  obtain ⟨os, e⟩ := h
  rw [e]
  refine ⟨rfl, rfl, rfl, ?_, ?_⟩
  · simp [grow, World.drewN]
  · intro i hi
    simp [grow, World.drewN, Array.getElem?_append, hi]

set_option maxHeartbeats 6400000 in
set_option maxRecDepth 100000 in
theorem format60_any (u : Nat) (hu : u < 18446744073709551616) (w : World) (hr : Rdy w) :
    Calls Tryz.prog 253 #[.int .u64 u, .int .i64 10] w fun e w' => e = .returned (.string (bsOf (Lib.decDigits u))) ∧ Below w.heap.size w w' := by
  by_cases hs : u < 100
  · have h100 : (u : Int) < 100 := by omega
    go_enter Tryz.func253, Tryz.ntmps253
    go_wp2_with fail
    refine (Tryz.internal_strconv_small u hs _).mono ?_
    rintro e w' ⟨rfl, rfl⟩
    go_wp2_with fail
    go_ret
    exact ⟨rfl, Below.refl _ _⟩
  · have hu1 : 1 ≤ u := by omega
    have hnd20 : Lib.nDigits u ≤ 20 := by have := Lib.numDigits_eq u hu1 hu; split at this <;> omega
    have hal : Tryz.prog.arrayLen 304 = 24 := by simp [Program.arrayLen, Tryz.underlying304]
    have hsl1 : ∀ W, (Instr.sliceAt 304 (.pointer (some ⟨w.heap.size, 0, none⟩)) none (some (.int .i64 (Lib.nDigits u : Int))) none).run Tryz.prog W = .ok (.slice (some ⟨w.heap.size, 0, none⟩) (Lib.nDigits u) 24) W := fun W => by
      rw [run_sliceAt_array_h W 304 ⟨w.heap.size, 0, none⟩ (by simp [Program.arrayLen, Program.elem, Tryz.underlying304]) .i64 (Lib.nDigits u : Int) (by omega) (by rw [hal]; omega)]
      go_simp
    have hH0 := holds_zero0 w 304 (Lib.nDigits u) (by omega)
    have hfmt := Tryz.internal_strconv_formatBase10 w.heap.size 0 24 u (Array.replicate (Lib.nDigits u) 0) (w.alloc (.cells Lib.zeros24 304)) hH0 (by rw [Array.size_replicate]; exact Lib.lt_pow_nDigits u) hu (by rw [Array.size_replicate]; omega)
    rw [Array.size_replicate] at hfmt
    have HH0 := Lib.hid hH0
    have HF := Lib.hid hfmt
    have htab := Lib.hid (Lib.tabIs_alloc hr.tab (.cells Lib.zeros24 304))
    clear hH0 hal hfmt
    have h100 : ¬ (u : Int) < 100 := by omega
    go_enter Tryz.func253, Tryz.ntmps253
    go_wp2_with (go_at_call 268; refine (Tryz.internal_strconv_numDigits u hu1 hu _ htab.out).mono ?_; rintro e w' ⟨rfl, rfl⟩)
    refine HF.out.mono ?_
    rintro e w' ⟨rfl, k, v', dk, rfl, hF⟩
    have hcv : (convert 299 9 (.slice (some ⟨w.heap.size, 0, none⟩) (Lib.nDigits u) 24)).run Tryz.prog ((putRow (fun (b : UInt8) => Value.int .u8 (b.toNat : Int)) (w.alloc (.cells Lib.zeros24 304)) w.heap.size 0 dk).drewN k) = .ok (.string ⟨(Lib.decDigits u).toArray⟩) ((putRow (fun (b : UInt8) => Value.int .u8 (b.toNat : Int)) (w.alloc (.cells Lib.zeros24 304)) w.heap.size 0 dk).drewN k) := by
      have h := run_convert_bytes_back (P := Tryz.prog) ((putRow (fun (b : UInt8) => Value.int .u8 (b.toNat : Int)) (w.alloc (.cells Lib.zeros24 304)) w.heap.size 0 dk).drewN k) 299 9 5 ⟨w.heap.size, 0, none⟩ 24 (Lib.decDigits u) Tryz.underlying299 Tryz.underlying5 Tryz.underlying9 (fun j hj => by
        rw [Lib.row_is_numeral hF j hj, Lib.add_plain, World.cell?_drewN]
        exact cell?_putRow (fun (b : UInt8) => Value.int .u8 (b.toNat : Int)) _ w.heap.size 0 _ dk HH0.out (by rw [hF.size, Array.size_replicate]) j (by rw [hF.size]; rw [Lib.decDigits_length] at hj; exact hj))
      rw [Lib.decDigits_length] at h
      exact h
    go_wp2_with fail
    go_ret
    exact ⟨rfl, putRow_below _ _ _ _⟩

set_option maxHeartbeats 1000000 in
set_option maxRecDepth 100000 in
theorem format50_any (u : Nat) (hu : u < 18446744073709551616) (w : World) (hr : Rdy w) :
    Calls Tryz.prog 239 #[.int .u64 u, .int .i64 10] w fun e w' => e = .returned (.string (bsOf (Lib.decDigits u))) ∧ Below w.heap.size w w' := by
  go_enter Tryz.func239, Tryz.ntmps239
  go_wp2_with fail
  refine (format60_any u hu w hr).mono ?_
  rintro e w' ⟨rfl, hb⟩
  go_wp2_with fail
  go_ret
  exact ⟨rfl, hb⟩
end Go.Proofs.YtockinpjfhhkoaaGreatDoor

/- A row of digits is a number just if strconv parses it, it is small, and it prints as itself: no program in sight. -/
namespace Go.Proofs.YtockinpjfhhkoaaGreatDoor

theorem digVal_snoc' (l : List UInt8) (c : UInt8) : ∀ a, digVal a (l ++ [c]) = 10 * digVal a l + (c.toNat - 48) := by
  induction l with
  | nil => intro a; rfl
  | cons b r ih => intro a; rw [List.cons_append, digVal_cons, digVal_cons, ih]
theorem digVal_ge (l : List UInt8) : ∀ a, a ≤ digVal a l := by
  induction l with
  | nil => intro a; exact Nat.le_refl _
  | cons b r ih =>
    intro a
    rw [digVal_cons]
    have := ih (10 * a + (b.toNat - 48))
    omega
theorem parse_ok (M : Nat) (l : List UInt8) : ∀ a n, Lib.parseUintM M a l = .ok n → l.all isDig = true ∧ n = digVal a l := by
  induction l with
  | nil => intro a n h; simp only [Lib.parseUintM, Lib.NumEnd.ok.injEq] at h; exact ⟨rfl, h.symm⟩
  | cons b r ih =>
    intro a n h
    simp only [Lib.parseUintM] at h
    split at h
    · rename_i hd
      split at h
      · cases h
      · split at h
        · cases h
        · obtain ⟨h1, h2⟩ := ih _ _ h
          refine ⟨?_, ?_⟩
          · simp only [List.all_cons, h1, isDig, hd.1, hd.2]; rfl
          · rw [h2, digVal_cons]; congr 1; omega
    · cases h
theorem parse_small (l : List UInt8) : ∀ a, l.all isDig = true → digVal a l < 288230376151711744 → Lib.parseUintM 4611686018427387903 a l = .ok (digVal a l) := by
  induction l with
  | nil => intro a _ _; rfl
  | cons b r ih =>
    intro a h hv
    simp only [List.all_cons, Bool.and_eq_true] at h
    have hd := h.1
    simp only [isDig, Bool.and_eq_true, decide_eq_true_eq] at hd
    rw [digVal_cons] at hv ⊢
    have h1 := digVal_ge r (10 * a + (b.toNat - 48))
    simp only [Lib.parseUintM]
    rw [if_pos hd, if_neg (by omega), if_neg (by omega), show a * 10 + (b.toNat - 48) = 10 * a + (b.toNat - 48) by omega]
    exact ih _ h.2 hv

theorem digVal_lt' (l : List UInt8) (h : l.all isDig = true) : ∀ a, digVal a l < (a + 1) * 10 ^ l.length := by
  induction l with
  | nil => intro a; simp [digVal]
  | cons b r ih =>
    intro a
    simp only [List.all_cons, Bool.and_eq_true] at h
    have h1 := h.1
    simp only [isDig, Bool.and_eq_true, decide_eq_true_eq] at h1
    have := ih h.2 (10 * a + (b.toNat - 48))
    rw [digVal_cons, List.length_cons, Nat.pow_succ]
    refine Nat.lt_of_lt_of_le this ?_
    calc (10 * a + (b.toNat - 48) + 1) * 10 ^ r.length ≤ ((a + 1) * 10) * 10 ^ r.length := Nat.mul_le_mul_right _ (by omega)
      _ = (a + 1) * (10 ^ r.length * 10) := by rw [Nat.mul_assoc, Nat.mul_comm 10]
theorem digVal_lead (l : List UInt8) : ∀ a, a * 10 ^ l.length ≤ digVal a l := by
  induction l with
  | nil => intro a; simp [digVal]
  | cons b r ih =>
    intro a
    rw [digVal_cons, List.length_cons, Nat.pow_succ]
    refine Nat.le_trans ?_ (ih _)
    calc a * (10 ^ r.length * 10) = (10 * a) * 10 ^ r.length := by rw [Nat.mul_comm (10 ^ r.length), ← Nat.mul_assoc, Nat.mul_comm a]
      _ ≤ _ := Nat.mul_le_mul_right _ (by omega)

/-- Digits without a nought ahead are the numeral of their number. -/
theorem dec_of_digits (l : List UInt8) (hne : l ≠ []) (h : l.all isDig = true) (hz : l.length ≤ 1 ∨ l.head? ≠ some 48) : Lib.decDigits (digVal 0 l) = l := by
  generalize hn : l.length = n
  induction n using Nat.strongRecOn generalizing l with
  | ind n ih =>
    rcases List.eq_nil_or_concat l with rfl | ⟨p, c, rfl⟩
    · exact absurd rfl hne
    · rw [List.concat_eq_append] at *
      rw [digVal_snoc']
      simp only [List.all_append, List.all_cons, List.all_nil, Bool.and_true, Bool.and_eq_true] at h
      have hc := h.2
      simp only [isDig, Bool.and_eq_true, decide_eq_true_eq] at hc
      have hb : UInt8.ofNat (48 + (c.toNat - 48)) = c := by
        have : 48 + (c.toNat - 48) = c.toNat := by omega
        rw [this]; simp
      cases p with
      | nil =>
        have : digVal 0 [] = 0 := rfl
        rw [this, Nat.mul_zero, Nat.zero_add, Lib.decDigits, dif_pos (by omega), hb]
        rfl
      | cons b r =>
        have hh : b ≠ 48 := by
          rcases hz with hz | hz
          · simp at hz
          · simpa using hz
        have hbd := h.1
        simp only [List.all_cons, Bool.and_eq_true] at hbd
        have hbd1 := hbd.1
        simp only [isDig, Bool.and_eq_true, decide_eq_true_eq] at hbd1
        have hb48 : b.toNat ≠ 48 := fun e => hh (UInt8.toNat.inj e)
        have hpos : 1 ≤ digVal 0 (b :: r) := by
          rw [digVal_cons]
          have := digVal_ge r (10 * 0 + (b.toNat - 48))
          omega
        have hi := ih (b :: r).length (by rw [← hn]; simp) (b :: r) (by simp) h.1 (.inr (by simpa using hh)) rfl
        rw [Lib.decDigits, dif_neg (by omega), show (10 * digVal 0 (b :: r) + (c.toNat - 48)) / 10 = digVal 0 (b :: r) by omega, show (10 * digVal 0 (b :: r) + (c.toNat - 48)) % 10 = c.toNat - 48 by omega, hi, hb]

theorem numOk_iff (l : List UInt8) (hne : l ≠ []) : numOk l = true ↔ ∃ n, Lib.parseUintM 4611686018427387903 0 l = .ok n ∧ n < 288230376151711744 ∧ Lib.decDigits n = l := by
  constructor
  · intro h
    simp only [numOk, Bool.and_eq_true, Bool.or_eq_true, decide_eq_true_eq, bne_iff_ne] at h
    obtain ⟨⟨⟨h1, _⟩, h3⟩, h4⟩ := h
    exact ⟨_, parse_small l 0 h1 h4, h4, dec_of_digits l hne h1 h3⟩
  · rintro ⟨n, h1, h2, h3⟩
    obtain ⟨hall, rfl⟩ := parse_ok _ _ _ _ h1
    have hz : l.length ≤ 1 ∨ l.head? ≠ some 48 := by
      cases l with
      | nil => exact absurd rfl hne
      | cons b r =>
        by_cases h : r = []
        · subst h; left; simp
        · right
          intro hb
          simp only [List.head?_cons, Option.some.injEq] at hb
          subst hb
          have e : digVal 0 (48 :: r) = digVal 0 r := by rw [digVal_cons]; rfl
          rw [e] at h3
          simp only [List.all_cons, Bool.and_eq_true] at hall
          have hlt := digVal_lt' r hall.2 0
          have hr : 1 ≤ r.length := List.length_pos_iff.2 h
          have hl := congrArg List.length h3
          rw [Lib.decDigits_length, List.length_cons] at hl
          -- a number below 10 ^ r.length has at most r.length digits
          have hnd : Lib.nDigits (digVal 0 r) ≤ r.length := by
            rw [Nat.zero_add, Nat.one_mul] at hlt
            have : ∀ k u, 1 ≤ k → u < 10 ^ k → Lib.nDigits u ≤ k := by
              intro k
              induction k with
              | zero => intro u h; omega
              | succ k ih =>
                intro u _ hu
                by_cases h10 : u < 10
                · rw [Lib.nDigits_small h10]; omega
                · rw [Lib.nDigits_big h10]
                  have hk : 1 ≤ k := by
                    rcases Nat.eq_zero_or_pos k with rfl | hk
                    · simp at hu; omega
                    · exact hk
                  have := ih (u / 10) hk (by rw [Nat.pow_succ] at hu; omega)
                  omega
            exact this _ _ hr hlt
          omega
    have hlen : l.length ≤ 18 := by
      rcases hz with hz | hz
      · omega
      · cases l with
        | nil => simp
        | cons b r =>
          have hb48 : b ≠ 48 := by simpa using hz
          have hbt : b.toNat ≠ 48 := fun e => hb48 (UInt8.toNat.inj e)
          simp only [List.all_cons, Bool.and_eq_true] at hall
          have hd := hall.1
          simp only [isDig, Bool.and_eq_true, decide_eq_true_eq] at hd
          rw [digVal_cons] at h2
          have h5 := digVal_lead r (10 * 0 + (b.toNat - 48))
          have h6 : 10 ^ r.length ≤ (10 * 0 + (b.toNat - 48)) * 10 ^ r.length := Nat.le_mul_of_pos_left _ (by omega)
          have h7 : 10 ^ r.length < 10 ^ 18 := by
            refine Nat.lt_of_le_of_lt (Nat.le_trans h6 h5) (Nat.lt_of_lt_of_le h2 (by decide))
          have h8 := (Nat.pow_lt_pow_iff_right (by decide : 1 < 10)).1 h7
          simp only [List.length_cons]; omega
    simp only [numOk, Bool.and_eq_true, Bool.or_eq_true, decide_eq_true_eq, bne_iff_ne]
    exact ⟨⟨⟨hall, hlen⟩, hz⟩, h2⟩
end Go.Proofs.YtockinpjfhhkoaaGreatDoor

/- lex.row: the token that letters and digits in a row are. -/
namespace Go.Proofs.YtockinpjfhhkoaaGreatDoor
open Go.RowKit Go.Shelf
attribute [local go_sem ↓] Go.wp_at_zero Go.wp_at_succ

def rowR (s : ByteArray) : Tok × Int :=
  match rowKind s.data.toList with
  | .ok k => (⟨k, s, 0⟩, 0)
  | .error e => (noTok, e)
theorem kindR_low (b : UInt8) : ((kindR b.toNat == 2) : Bool) = isLow b := by
  simp only [kindR, isLow]
  rw [Bool.eq_iff_iff]
  simp only [beq_iff_eq, Bool.and_eq_true, decide_eq_true_eq]
  constructor
  · intro h
    split at h
    · omega
    · split at h
      · cases h
      · split at h <;> cases h
  · rintro ⟨h1, h2⟩
    rw [if_pos ⟨by omega, by omega⟩]
theorem parse_le (M : Nat) (l : List UInt8) : ∀ a n, a ≤ M → Lib.parseUintM M a l = .ok n → n ≤ M := by
  induction l with
  | nil => intro a n ha h; simp only [Lib.parseUintM, Lib.NumEnd.ok.injEq] at h; omega
  | cons b r ih =>
    intro a n ha h
    simp only [Lib.parseUintM] at h
    split at h
    · split at h
      · cases h
      · split at h
        · cases h
        · exact ih _ _ (by omega) h
    · cases h
theorem tok_ret {t u : Tok} {c d : Int} {k : IntKind} (h : t = u) (h2 : c = d) : Ending.returned (.tuple #[t.val, .int k c]) = .returned (.tuple #[u.val, .int k d]) := by rw [h, h2]

theorem loadVar3 {P : Program} {w : World} {g : Nat} {ty : TypeId} {x y z : Value} (hagg : (isAgg ty).run P w = .ok true w) (hsz : (Go.sizeOf ty).run P w = .ok 3 w)
    (h0 : w.cell? ⟨g, 0, none⟩ = some x) (h1 : w.cell? ⟨g, 1, none⟩ = some y) (h2 : w.cell? ⟨g, 2, none⟩ = some z) : (loadVar ty ⟨g, 0, none⟩).run P w = .ok (.agg #[x, y, z]) w := by
  have hl : (loadCells ⟨g, 0, none⟩ [x, y, z].length).run P w = .ok [x, y, z].toArray w :=
    run_loadCells_list (P := P) w ⟨g, 0, none⟩ [x, y, z] (fun j v hj => by
      match j, hj with
      | 0, hj => simp at hj; subst hj; exact h0
      | 1, hj => simp at hj; subst hj; exact h1
      | 2, hj => simp at hj; subst hj; exact h2)
  have hl' : (loadCells ⟨g, 0, none⟩ 3).run P w = .ok #[x, y, z] w := hl
  simp [loadVar, Sem.run_bind, hagg, hsz, hl']
theorem results_row_tmp {fn : Func} {q u : Tmp} {ty : TypeId} (h : fn.results = #[.cell q ty, .tmp u]) {tmps : Array Value} {P : Program} {w : World} {g : Nat} {x y z v : Value}
    (hp : tmps.getD q undef = .pointer (some ⟨g, 0, none⟩)) (hv : tmps.getD u undef = v) (hagg : (isAgg ty).run P w = .ok true w) (hsz : (Go.sizeOf ty).run P w = .ok 3 w)
    (h0 : w.cell? ⟨g, 0, none⟩ = some x) (h1 : w.cell? ⟨g, 1, none⟩ = some y) (h2 : w.cell? ⟨g, 2, none⟩ = some z) : (results fn tmps).run P w = .ok (.tuple #[.agg #[x, y, z], v]) w := by
  rw [results_cell_tmp h, hp, hv]
  simp [asAddr, loadVar3 hagg hsz h0 h1 h2]

theorem set3_cells {w1 : World} {g : Nat} {x' y' z' : Value} {t : TypeId} {fz : Nat × Nat} (h : w1.heap[g]? = some (.cells #[x', y', z'] t fz)) (x y z : Value) :
    (((w1.setCell ⟨g, 0, none⟩ x).setCell ⟨g, 1, none⟩ y).setCell ⟨g, 2, none⟩ z).cell? ⟨g, 0, none⟩ = some x ∧ (((w1.setCell ⟨g, 0, none⟩ x).setCell ⟨g, 1, none⟩ y).setCell ⟨g, 2, none⟩ z).cell? ⟨g, 1, none⟩ = some y ∧
    (((w1.setCell ⟨g, 0, none⟩ x).setCell ⟨g, 1, none⟩ y).setCell ⟨g, 2, none⟩ z).cell? ⟨g, 2, none⟩ = some z := by
  have c0 := Lib.cell_of_heap h 0
  have c1 := Lib.cell_of_heap h 1
  have c2 := Lib.cell_of_heap h 2
  refine ⟨?_, ?_, ?_⟩
  · rw [World.cell?_setCell_other _ _ _ _ (by simp), World.cell?_setCell_other _ _ _ _ (by simp)]
    exact World.cell?_setCell_same _ _ _ c0
  · rw [World.cell?_setCell_other _ _ _ _ (by simp)]
    exact World.cell?_setCell_same _ _ _ ((World.cell?_setCell_other _ _ _ _ (by simp)).trans c1)
  · exact World.cell?_setCell_same _ _ _ ((World.cell?_setCell_other _ _ _ _ (by simp)).trans ((World.cell?_setCell_other _ _ _ _ (by simp)).trans c2))
theorem set3_below {B : Nat} {w w1 : World} {g : Nat} (hb : Below B w w1) (hg : B ≤ g) (x y z : Value) : Below B w (((w1.setCell ⟨g, 0, none⟩ x).setCell ⟨g, 1, none⟩ y).setCell ⟨g, 2, none⟩ z) :=
  ((hb.setCell (p := ⟨g, 0, none⟩) hg x).setCell (p := ⟨g, 1, none⟩) hg y).setCell (p := ⟨g, 2, none⟩) hg z

set_option maxRecDepth 100000 in
set_option maxHeartbeats 4000000 in
theorem row41_any (s : ByteArray) (h0 : 0 < s.size) (hs : s.size ≤ 281474976710656) (w : World) (hr : Rdy w) : Calls Tryz.prog 225 #[.string s] w fun e w' =>
    e = .returned (.tuple #[(rowR s).1.val, .int .i64 (rowR s).2]) ∧ Below w.heap.size w w' := by
  have HS := size_list s
  have hg := get_list s 0 h0
  generalize hc0 : s[0]'h0 = b at hg
  obtain ⟨r, hl⟩ : ∃ r, s.data.toList = b :: r := by
    cases h : s.data.toList with
    | nil => rw [h] at HS; simp at HS; omega
    | cons c r => simp only [h, List.getElem_cons_zero] at hg; exact ⟨r, by rw [hg]⟩
  have hrl : r.length + 1 = s.size := by rw [← HS, hl]; rfl
  have hk := kindR_low b
  clear hg
  have hw32 : wrap32 (b.toNat : Int) = (b.toNat : Int) := by have := b.toNat_lt; unfold wrap32; omega
  cases hlo : isLow b with
  | true =>
    rw [hlo] at hk
    by_cases h8 : s.size ≤ 8
    · have HE : Hid (rowR s = (⟨1, s, 0⟩, 0)) := by simp [Hid, rowR, hl, rowKind, hlo, show r.length + 1 ≤ 8 by omega]
      clear hl hlo
      go_enter Tryz.func225, Tryz.ntmps225
      go_wp2_with (go_at_call 195; refine (kind_any _ _).mono ?_; rintro e w' ⟨rfl, rfl⟩)
      exact bodyPost_ret (results_row_tmp rfl rfl rfl (Tryz.isAgg194 _) (Tryz.sizeOf194 _) (World.cell?_alloc_new ..) (World.cell?_alloc_new ..) (World.cell?_alloc_new ..)) rfl ⟨by rw [HE.out]; rfl, (Below.refl _ w).alloc (Nat.le_refl _) _⟩
    · have HE : Hid (rowR s = (noTok, 152)) := by simp [Hid, rowR, hl, rowKind, hlo, show ¬ r.length + 1 ≤ 8 by omega]
      clear hl hlo
      go_enter Tryz.func225, Tryz.ntmps225
      go_wp2_with (go_at_call 195; refine (kind_any _ _).mono ?_; rintro e w' ⟨rfl, rfl⟩)
      exact bodyPost_ret (results_row_tmp rfl rfl rfl (Tryz.isAgg194 _) (Tryz.sizeOf194 _) (World.cell?_alloc_new ..) (World.cell?_alloc_new ..) (World.cell?_alloc_new ..)) rfl ⟨by rw [HE.out]; rfl, (Below.refl _ w).alloc (Nat.le_refl _) _⟩
  | false =>
    rw [hlo] at hk
    have hne : s.data.toList ≠ [] := by rw [hl]; simp
    have HE : Hid (rowR s = if numOk s.data.toList then (⟨2, s, 0⟩, 0) else (noTok, 151)) := by
      simp only [Hid, rowR, hl, rowKind, hlo]
      cases numOk (b :: r) <;> rfl
    have HQ := Lib.hid (numOk_iff s.data.toList hne)
    clear hl hlo
    have hr1 : Rdy (w.alloc (.cells #[.int .u8 0, .string .empty, .int .i64 0] 194)) := hr.below ((Below.refl _ w).alloc (Nat.le_refl _) _)
    have HP := Lib.hid (parse49_any s (by omega) hs _ hr1)
    have HR1 := Lib.hid hr1
    clear hr1
    go_enter Tryz.func225, Tryz.ntmps225
    go_wp2_with (go_at_call 195; refine (kind_any _ _).mono ?_; rintro e w' ⟨rfl, rfl⟩)
    refine HP.out.mono ?_
    rintro e w1 ⟨⟨u, ev, rfl, hpu⟩, hb1⟩
    have HR2 := Lib.hid (HR1.out.below hb1)
    have hbw : Below w.heap.size w w1 := ((Below.refl _ w).alloc (Nat.le_refl _) _).trans (hb1.mono (by simp))
    have hblk : w1.heap[w.heap.size]? = some (.cells #[.int .u8 0, .string .empty, .int .i64 0] 194 (0, 0)) := by
      have hz : (w.alloc (.cells #[.int .u8 0, .string .empty, .int .i64 0] 194)).heap.size = w.heap.size + 1 := by simp
      rw [hb1.block w.heap.size (by rw [hz]; omega)]
      exact Array.getElem?_push_size
    have HBW := Lib.hid hbw
    have HBL := Lib.hid hblk
    clear hbw hblk hb1
    unfold Parsed at hpu
    rcases hpp : Lib.parseUintM 4611686018427387903 0 s.data.toList with n | _ | _
    · rw [hpp] at hpu
      obtain ⟨rfl, rfl⟩ := hpu
      have hn62 : u ≤ 4611686018427387903 := parse_le _ _ _ _ (by omega) hpp
      have HPP := Lib.hid hpp
      clear hpp
      have c0 := Lib.cell_of_heap HBL.out 0
      have c1 := Lib.cell_of_heap HBL.out 1
      have c2 := Lib.cell_of_heap HBL.out 2
      have f0 := Lib.frozen_of_heap HBL.out 0
      have f1 := Lib.frozen_of_heap HBL.out 1
      have f2 := Lib.frozen_of_heap HBL.out 2
      simp only [List.getElem?_toArray, List.getElem?_cons_zero, List.getElem?_cons_succ] at c0 c1 c2
      by_cases hbig : 288230376151711744 ≤ u
      · have HF : Hid (rowR s = (noTok, 151)) := by
          have : numOk s.data.toList = false := by
            rw [Bool.eq_false_iff]; intro h
            obtain ⟨n, h1, h2, _⟩ := HQ.out.1 h
            rw [HPP.out] at h1; cases h1; omega
          rw [Hid, HE.out, this]; rfl
        have hbi : (288230376151711744 : Int) ≤ u := by omega
        clear hbig
        go_wp2_with fail
        obtain ⟨k0, k1, k2⟩ := set3_cells HBL.out (.int .u8 0) (.string .empty) (.int .i64 0)
        exact bodyPost_ret (results_row_tmp rfl rfl rfl (Tryz.isAgg194 _) (Tryz.sizeOf194 _) k0 k1 k2) rfl ⟨by rw [HF.out]; rfl, set3_below HBW.out (Nat.le_refl _) _ _ _⟩
      · have hbi : (u : Int) < 288230376151711744 := by omega
        have HFM := Lib.hid (format50_any u (by omega) w1 HR2.out)
        have HBIG : Hid (u < 288230376151711744) := by rw [Hid]; omega
        clear hbig
        obtain ⟨a, ha⟩ : ∃ a : Int, (u : Int) = a := ⟨_, rfl⟩
        rw [ha] at hbi HFM ⊢
        have HAA := Lib.hid ha
        clear ha
        by_cases heq : bsOf (Lib.decDigits u) = s
        · have HF : Hid (rowR s = (⟨2, s, 0⟩, 0)) := by
            have : numOk s.data.toList = true := HQ.out.2 ⟨u, HPP.out, HBIG.out, by rw [← heq, bsOf_list]⟩
            rw [Hid, HE.out, this]; rfl
          have HEQ := Lib.hid heq
          clear heq
          go_wp2_with fail
          refine HFM.out.mono ?_
          rintro e w2 ⟨rfl, hb2⟩
          rw [HEQ.out]
          have HBW2 := Lib.hid (HBW.out.trans (hb2.mono HBW.out.size))
          have HBL2 := Lib.hid ((hb2.block w.heap.size (by exact (Array.getElem?_eq_some_iff.1 HBL.out).1)).trans HBL.out)
          clear hb2 c0 c1 c2 f0 f1 f2
          have c0 := Lib.cell_of_heap HBL2.out 0
          have c1 := Lib.cell_of_heap HBL2.out 1
          have c2 := Lib.cell_of_heap HBL2.out 2
          have f0 := Lib.frozen_of_heap HBL2.out 0
          have f1 := Lib.frozen_of_heap HBL2.out 1
          have f2 := Lib.frozen_of_heap HBL2.out 2
          simp only [List.getElem?_toArray, List.getElem?_cons_zero, List.getElem?_cons_succ] at c0 c1 c2
          go_wp2_with fail
          obtain ⟨k0, k1, k2⟩ := set3_cells HBL2.out (.int .u8 2) (.string s) (.int .i64 0)
          exact bodyPost_ret (results_row_tmp rfl rfl rfl (Tryz.isAgg194 _) (Tryz.sizeOf194 _) k0 k1 k2) rfl ⟨by rw [HF.out]; rfl, set3_below HBW2.out (Nat.le_refl _) _ _ _⟩
        · have HF : Hid (rowR s = (noTok, 151)) := by
            have : numOk s.data.toList = false := by
              rw [Bool.eq_false_iff]; intro h
              obtain ⟨n, h1, h2, h3⟩ := HQ.out.1 h
              rw [HPP.out] at h1; cases h1
              exact heq (by rw [h3, bsOf_of])
            rw [Hid, HE.out, this]; rfl
          have hss : ((bsOf (Lib.decDigits u)).toList == s.toList) = false := by simpa using fun h => heq (toList_inj h)
          generalize bsOf (Lib.decDigits u) = D at hss HFM
          clear heq
          go_wp2_with fail
          refine HFM.out.mono ?_
          rintro e w2 ⟨rfl, hb2⟩
          have HBW2 := Lib.hid (HBW.out.trans (hb2.mono HBW.out.size))
          have HBL2 := Lib.hid ((hb2.block w.heap.size (by exact (Array.getElem?_eq_some_iff.1 HBL.out).1)).trans HBL.out)
          clear hb2 c0 c1 c2 f0 f1 f2
          have c0 := Lib.cell_of_heap HBL2.out 0
          have c1 := Lib.cell_of_heap HBL2.out 1
          have c2 := Lib.cell_of_heap HBL2.out 2
          have f0 := Lib.frozen_of_heap HBL2.out 0
          have f1 := Lib.frozen_of_heap HBL2.out 1
          have f2 := Lib.frozen_of_heap HBL2.out 2
          simp only [List.getElem?_toArray, List.getElem?_cons_zero, List.getElem?_cons_succ] at c0 c1 c2
          go_wp2_with fail
          obtain ⟨k0, k1, k2⟩ := set3_cells HBL2.out (.int .u8 0) (.string .empty) (.int .i64 0)
          exact bodyPost_ret (results_row_tmp rfl rfl rfl (Tryz.isAgg194 _) (Tryz.sizeOf194 _) k0 k1 k2) rfl ⟨by rw [HF.out]; rfl, set3_below HBW2.out (Nat.le_refl _) _ _ _⟩
    · rw [hpp] at hpu
      obtain ⟨te, pe, rfl⟩ := hpu
      have HF : Hid (rowR s = (noTok, 151)) := by
        have : numOk s.data.toList = false := by
          rw [Bool.eq_false_iff]; intro h
          obtain ⟨n, h1, _⟩ := HQ.out.1 h
          rw [hpp] at h1; cases h1
        rw [Hid, HE.out, this]; rfl
      clear hpp
      have c0 := Lib.cell_of_heap HBL.out 0
      have c1 := Lib.cell_of_heap HBL.out 1
      have c2 := Lib.cell_of_heap HBL.out 2
      have f0 := Lib.frozen_of_heap HBL.out 0
      have f1 := Lib.frozen_of_heap HBL.out 1
      have f2 := Lib.frozen_of_heap HBL.out 2
      simp only [List.getElem?_toArray, List.getElem?_cons_zero, List.getElem?_cons_succ] at c0 c1 c2
      go_wp2_with fail
      obtain ⟨k0, k1, k2⟩ := set3_cells HBL.out (.int .u8 0) (.string .empty) (.int .i64 0)
      exact bodyPost_ret (results_row_tmp rfl rfl rfl (Tryz.isAgg194 _) (Tryz.sizeOf194 _) k0 k1 k2) rfl ⟨by rw [HF.out]; rfl, set3_below HBW.out (Nat.le_refl _) _ _ _⟩
    · rw [hpp] at hpu
      obtain ⟨te, pe, rfl⟩ := hpu
      have HF : Hid (rowR s = (noTok, 151)) := by
        have : numOk s.data.toList = false := by
          rw [Bool.eq_false_iff]; intro h
          obtain ⟨n, h1, _⟩ := HQ.out.1 h
          rw [hpp] at h1; cases h1
        rw [Hid, HE.out, this]; rfl
      clear hpp
      have c0 := Lib.cell_of_heap HBL.out 0
      have c1 := Lib.cell_of_heap HBL.out 1
      have c2 := Lib.cell_of_heap HBL.out 2
      have f0 := Lib.frozen_of_heap HBL.out 0
      have f1 := Lib.frozen_of_heap HBL.out 1
      have f2 := Lib.frozen_of_heap HBL.out 2
      simp only [List.getElem?_toArray, List.getElem?_cons_zero, List.getElem?_cons_succ] at c0 c1 c2
      go_wp2_with fail
      obtain ⟨k0, k1, k2⟩ := set3_cells HBL.out (.int .u8 0) (.string .empty) (.int .i64 0)
      exact bodyPost_ret (results_row_tmp rfl rfl rfl (Tryz.isAgg194 _) (Tryz.sizeOf194 _) k0 k1 k2) rfl ⟨by rw [HF.out]; rfl, set3_below HBW.out (Nat.le_refl _) _ _ _⟩
end Go.Proofs.YtockinpjfhhkoaaGreatDoor
