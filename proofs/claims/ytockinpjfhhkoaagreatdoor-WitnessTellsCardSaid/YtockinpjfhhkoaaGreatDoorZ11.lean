/- Part of a proof. -/
import Derived.Test.YtockinpjfhhkoaaGreatDoorZ10
import Derived.Lib.ParseIntBMem
import Derived.Lib.ConvBytes
import Derived.Lib.Hide
import Derived.Laws.Strings3
import Derived.Laws.Closers25
import Derived.Laws.Closers25b
import Derived.WalkKit
import Derived.BigCall
import Derived.BigGuard
import Derived.LoopTactic
import Derived.Shelf.Pu.ToError
import Derived.Shelf.Pu.ToErrorRange
import Derived.Shelf.Pu.Lower
import Derived.Test.YtockinpjfhhkoaaGreatDoorZ00
import Derived.Lib.ItoaMem
set_option maxRecDepth 100000
set_option maxHeartbeats 16000000
open Go.Lib renaming hid → Jh
/- (What the port leaves of the builders' contracts: nothing.) -/
namespace Go.Proofs.YtockinpjfhhkoaaGreatDoor
open Go.RowKit Go.Shelf
theorem parse58_any (t : ByteArray) (hne : t.size ≠ 0) (hmax : t.size ≤ 9223372036854775806) (w : World) :
 Calls Tryz.prog 251 #[.string t,.int .i64 10,.int .i64 62] w fun e w' => e = .returned (Lib.uintTupleM 297 4611686018427387903 (Lib.parseUintM 4611686018427387903 0 t.data.toList)) ∧ w' = Lib.bytesWorld w 5 t:=by
 have hemp : t.toList.isEmpty = false:=by
  rw [← decide_eq_emptyBytes]
  exact decide_eq_false (fun h => hne (by rw [h]; rfl))
 have hcv:=Lib.run_convert_string_bytes (P:=Tryz.prog) w 9 299 5 t (u:=.string) Tryz.underlying9 Tryz.underlying299 Tryz.underlying5
 have hB : ∀ j,j < t.size → (Lib.bytesWorld w 5 t).cell? ⟨w.heap.size,j,none⟩ = some (.int .u8 (t.data.toList.getD j 0).toNat):=fun j hj => Lib.bytesWorld_cell w 5 t j hj
 obtain ⟨W1,hW1⟩ : ∃ W1,W1 = Lib.bytesWorld w 5 t:=⟨_,rfl⟩
 rw [← hW1] at hcv hB ⊢
 clear hW1
 obtain ⟨bs,hL⟩ : ∃ bs,bs = t.data.toList:=⟨_,rfl⟩
 have hLn : bs.length = t.size:=by rw [hL,Lib.size_eq]
 rw [← hL] at hB ⊢
 clear hL
 have hmv : IntKind.u64.wrap (IntKind.u64.wrap 4611686018427387904 - 1) = 4611686018427387903:=by
  rw [IntKind.wrap_u64,IntKind.wrap_u64]
  decide
 go_enter Tryz.func251,Tryz.ntmps251
 go_wp2
 go_loop [12,13,101] (fun vu vn vi => ∃ (k acc : Nat) (a : Int),vu = .bool false ∧ vn = .int .u64 a ∧ vi = .int .i64 k ∧ k ≤ t.size ∧ Hid (a = (acc : Int) ∧ acc ≤ 4611686018427387903 ∧ Lib.parseUintM 4611686018427387903 0 bs = Lib.parseUintM 4611686018427387903 acc (bs.drop k)))
  (fun _ _ vi => t.size - (intOf vi).toNat)
 case atStart => exact ⟨0,0,0,rfl,rfl,rfl,by omega,rfl,by omega,rfl⟩
 case round =>
  obtain ⟨k,acc,a,rfl,rfl,rfl,hk,hh⟩:=hrel
  obtain ⟨ha,hacc,hdec⟩:=hh.out
  clear hh
  have a0 : 0 ≤ a:=by omega
  have a1 : a ≤ 4611686018427387903:=by omega
  by_cases hkn : k < t.size
  ·have hc:=hB k hkn
   have hdrop : bs.drop k = bs[k]'(by omega) :: bs.drop (k + 1):=List.drop_eq_getElem_cons (by omega)
   have hget : bs.getD k 0 = bs[k]'(by omega):=by simp [List.getD,List.getElem?_eq_getElem (show k < bs.length by omega)]
   rw [hdrop] at hdec
   rw [hget] at hc
   generalize bs[k]'(by omega) = c at hc hdec
   have hc256 : c.toNat < 256:=c.toNat_lt
   clear hB hdrop hget
   by_cases hdig : 48 ≤ c.toNat ∧ c.toNat ≤ 57
   ·obtain ⟨hd0,hd1⟩:=hdig
    by_cases hcut : 1844674407370955162 ≤ acc
    ·have hF : Lib.parseUintM 4611686018427387903 acc (c :: bs.drop (k + 1)) = .range:=by simp [Lib.parseUintM,hd0,hd1,hcut]
     rw [hF] at hdec
     have icut : 1844674407370955162 ≤ a:=by omega
     clear hcut hacc hF ha
     go_wp2
     go_ret2
     exact ⟨rfl,rfl⟩
    ·by_cases hov : 4611686018427387903 < acc * 10 + (c.toNat - 48)
     ·have hF : Lib.parseUintM 4611686018427387903 acc (c :: bs.drop (k + 1)) = .range:=by simp [Lib.parseUintM,hd0,hd1,hcut,hov]
      rw [hF] at hdec
      have icut : a < 1844674407370955162:=by omega
      have iov : 4611686018427387903 < a * 10 + ((c.toNat : Int) - 48):=by omega
      by_cases hw64 : 18446744073709551616 ≤ a * 10 + ((c.toNat : Int) - 48)
      ·have hwr : IntKind.u64.wrap (a * 10 + ((c.toNat : Int) - 48)) = a * 10 + ((c.toNat : Int) - 48) - 18446744073709551616:=by
        rw [IntKind.wrap_u64]
        omega
       clear hcut hacc hF hov ha
       go_wp2
       go_ret2
       exact ⟨rfl,rfl⟩
      ·have hw2 : a * 10 + ((c.toNat : Int) - 48) < 18446744073709551616:=by omega
       have hwr : IntKind.u64.wrap (a * 10 + ((c.toNat : Int) - 48)) = a * 10 + ((c.toNat : Int) - 48):=by
        rw [IntKind.wrap_u64]
        omega
       clear hcut hacc hF hov ha hw64
       go_wp2
       go_ret2
       exact ⟨rfl,rfl⟩
     ·have hF : Lib.parseUintM 4611686018427387903 acc (c :: bs.drop (k + 1)) = Lib.parseUintM 4611686018427387903 (acc * 10 + (c.toNat - 48)) (bs.drop (k + 1)):=by simp [Lib.parseUintM,hd0,hd1,hcut,hov]
      have HN : Hid (a * 10 + ((c.toNat : Int) - 48) = ((acc * 10 + (c.toNat - 48) : Nat) : Int) ∧ acc * 10 + (c.toNat - 48) ≤ 4611686018427387903 ∧ Lib.parseUintM 4611686018427387903 0 bs = Lib.parseUintM 4611686018427387903 (acc * 10 + (c.toNat - 48)) (bs.drop (k + 1))):=Jh ⟨by omega,by omega,hdec.trans hF⟩
      have icut : a < 1844674407370955162:=by omega
      have iov : a * 10 + ((c.toNat : Int) - 48) ≤ 4611686018427387903:=by omega
      clear hcut hacc hF hov hdec ha
      go_wp2
      refine ⟨⟨k + 1,acc * 10 + (c.toNat - 48),a * 10 + ((c.toNat : Int) - 48),rfl,(by first | rfl | (congr 1; omega)),(by first | rfl | (congr 1; omega)),by omega,HN⟩,by simp [intOf]; omega⟩
   ·have hF : Lib.parseUintM 4611686018427387903 acc (c :: bs.drop (k + 1)) = Lib.NumEnd.syntax:=by simp [Lib.parseUintM,hdig]
    rw [hF] at hdec
    clear hacc hF ha
    have hv0:=bits_lo_u8 .or (c.toNat : Int) 32
    have hv1:=bits_hi_u8 .or (c.toNat : Int) 32
    have hu0:=bits_lo_u8 .or 95 32
    have hu1:=bits_hi_u8 .or 95 32
    go_wp2
    all_goals go_ret2
    all_goals first | exact ⟨rfl,rfl⟩ | exact ⟨by rw [hdec]; rfl,rfl⟩
  ·have hkk : k = t.size:=by omega
   subst hkk
   have hF : Lib.parseUintM 4611686018427387903 acc (bs.drop t.size) = .ok acc:=by rw [List.drop_eq_nil_of_le (by omega)]; rfl
   rw [hF] at hdec
   subst ha
   clear hacc hF a0 a1
   go_wp2
   go_ret2
   exact ⟨rfl,rfl⟩
open Go.RowKit Go.Shelf Go.Sort
def Rdy (w : World) : Prop :=
 (∃ m,w.cell? ⟨0,0,none⟩ = some (.int .i64 m)) ∧ (∃ te pe,w.cell? ⟨1,0,none⟩ = some (.iface te pe)) ∧ (∃ te pe,w.cell? ⟨2,0,none⟩ = some (.iface te pe)) ∧
 ∃ t fz,w.heap[3]? = some (.cells ((Lib.pow10Tab.map fun z => Value.int .u64 z).toArray) t fz)
theorem Rdy.lt {w : World} (h : Rdy w) : 4 ≤ w.heap.size:=by
 obtain ⟨_,_,_,t,fz,h⟩:=h
 have:=(Array.getElem?_eq_some_iff.1 h).1
 omega
theorem Rdy.belowB {w w' : World} {B : Nat} (hB : 4 ≤ B) (h : Rdy w) (hb : Below B w w') : Rdy w':=by
 obtain ⟨⟨m,h1⟩,⟨t2,p2,h2⟩,⟨t3,p3,h3⟩,t,fz,h4⟩:=h
 exact ⟨⟨m,(hb.cell (p:=⟨0,0,none⟩) (show 0 < B by omega)).trans h1⟩,⟨t2,p2,(hb.cell (p:=⟨1,0,none⟩) (show 1 < B by omega)).trans h2⟩,⟨t3,p3,(hb.cell (p:=⟨2,0,none⟩) (show 2 < B by omega)).trans h3⟩,t,fz,(hb.block 3 (by omega)).trans h4⟩
theorem Rdy.below {w w' : World} (h : Rdy w) (hb : Below w.heap.size w w') : Rdy w':=h.belowB h.lt hb
theorem Rdy.tab {w : World} (h : Rdy w) : Lib.TabIs Tryz.prog w "internal/strconv.uint64pow10" .u64 Lib.pow10Tab:=by
 obtain ⟨_,_,_,t,fz,h4⟩:=h
 unfold Lib.TabIs World.var?
 rw [show Program.globalNamed Tryz.prog _ = some 3 from by kernel_rfl]
 simp [h4]
def z5v (l : List UInt8) (u : Nat) (ev : Value) : Prop :=
 match Lib.parseUintM 4611686018427387903 0 l with
 | .ok n => u = n ∧ ev = .nilIface
 | _ => ∃ t p,ev = .iface t p
theorem parse49_any (s : ByteArray) (hne : s.size ≠ 0) (hlim : s.size ≤ 281474976710656) (w : World) (hr : Rdy w) :
 Calls Tryz.prog 238 #[.string s,.int .i64 10,.int .i64 62] w fun e w' => (∃ u ev,e = .returned (.tuple #[.int .u64 (u : Nat),ev]) ∧ z5v s.data.toList u ev) ∧ Below w.heap.size w w':=by
 have hI:=parse58_any s hne (by omega) w
 have hb0 : Below w.heap.size w (Lib.bytesWorld w 5 s):=Lib.bytesWorld_below _ _ _
 generalize Lib.bytesWorld w 5 s = W1 at hI hb0
 have hr1:=hr.below hb0
 rcases hp : Lib.parseUintM 4611686018427387903 0 s.data.toList with n | _ | _
 ·rw [hp] at hI
  have HP : Hid (z5v s.data.toList n .nilIface):=by rw [Hid,z5v,hp]; exact ⟨rfl,rfl⟩
  clear hp
  have HI : Hid (Calls Tryz.prog 251 #[.string s,.int .i64 10,.int .i64 62] w fun e w' => e = .returned (.tuple #[.int .u64 n,.nilIface]) ∧ w' = W1):=hI
  clear hI
  go_enter Tryz.func238,Tryz.ntmps238
  go_wp2_with fail
  refine HI.out.mono ?_
  rintro e w1 ⟨rfl,rfl⟩
  go_wp2_with fail
  go_ret2
  exact ⟨⟨n,_,rfl,HP.out⟩,hb0⟩
 ·rw [hp] at hI
  have HP : Hid (∀ t p,z5v s.data.toList 0 (.iface t p)):=fun t p => by rw [z5v,hp]; exact ⟨t,p,rfl⟩
  clear hp
  have HI : Hid (Calls Tryz.prog 251 #[.string s,.int .i64 10,.int .i64 62] w fun e w' => e = .returned (.tuple #[.int .u64 0,.iface 297 (.int .i64 2)]) ∧ w' = W1):=hI
  clear hI
  obtain ⟨te,pe,hv⟩:=hr1.2.1
  have HE : Hid (Calls Tryz.prog 252 #[.string ⟨#[80,97,114,115,101,85,105,110,116]⟩,.string s,.int .i64 10,.int .i64 62,.iface 297 (.int .i64 2)] W1 fun e w' => ∃ N,e = .returned (.iface 300 (.pointer (some ⟨N,0,none⟩))) ∧ W1.heap.size ≤ N ∧ w'.heap[N]? = some (.cells #[.string ⟨#[80,97,114,115,101,85,105,110,116]⟩,.string s,.iface te pe] 318 (0,0)) ∧ Below W1.heap.size W1 w') :=
   AnyPu.strconv_toError_syntax (ρ:=Tryz.laysPu14_ren) { Tryz.laysPu14 with } ⟨#[80,97,114,115,101,85,105,110,116]⟩ s 10 62 (.iface te pe) W1 hlim hv (.inr ⟨te,pe,rfl⟩)
  clear hv
  go_enter Tryz.func238,Tryz.ntmps238
  go_wp2_with fail
  refine HI.out.mono ?_
  rintro e w1 ⟨rfl,rfl⟩
  go_wp2_with fail
  refine HE.out.mono ?_
  rintro e w2 ⟨N,rfl,_,_,h3⟩
  go_wp2_with fail
  go_ret2
  exact ⟨⟨0,_,rfl,HP.out _ _⟩,hb0.trans (h3.mono hb0.size)⟩
 ·rw [hp] at hI
  have HP : Hid (∀ t p,z5v s.data.toList 4611686018427387903 (.iface t p)):=fun t p => by rw [z5v,hp]; exact ⟨t,p,rfl⟩
  clear hp
  have HI : Hid (Calls Tryz.prog 251 #[.string s,.int .i64 10,.int .i64 62] w fun e w' => e = .returned (.tuple #[.int .u64 4611686018427387903,.iface 297 (.int .i64 1)]) ∧ w' = W1):=hI
  clear hI
  obtain ⟨te,pe,hv⟩:=hr1.2.2.1
  have HE : Hid (Calls Tryz.prog 252 #[.string ⟨#[80,97,114,115,101,85,105,110,116]⟩,.string s,.int .i64 10,.int .i64 62,.iface 297 (.int .i64 1)] W1 fun e w' => ∃ N,e = .returned (.iface 300 (.pointer (some ⟨N,0,none⟩))) ∧ W1.heap.size ≤ N ∧ w'.heap[N]? = some (.cells #[.string ⟨#[80,97,114,115,101,85,105,110,116]⟩,.string s,.iface te pe] 318 (0,0)) ∧ Below W1.heap.size W1 w') :=
   AnyPu.strconv_toError_range (ρ:=Tryz.laysPu14_ren) { Tryz.laysPu14 with } ⟨#[80,97,114,115,101,85,105,110,116]⟩ s 10 62 (.iface te pe) W1 hlim hv (.inr ⟨te,pe,rfl⟩)
  clear hv
  go_enter Tryz.func238,Tryz.ntmps238
  go_wp2_with fail
  refine HI.out.mono ?_
  rintro e w1 ⟨rfl,rfl⟩
  go_wp2_with fail
  refine HE.out.mono ?_
  rintro e w2 ⟨N,rfl,_,_,h3⟩
  go_wp2_with fail
  go_ret2
  exact ⟨⟨4611686018427387903,_,rfl,HP.out _ _⟩,hb0.trans (h3.mono hb0.size)⟩
theorem holds_zero0 (w : World) (T : TypeId) (nd : Nat) (hs : nd ≤ 24) : Holds (fun (b : UInt8) => Value.int .u8 (b.toNat : Int)) (w.alloc (.cells Lib.zeros24 T)) w.heap.size 0 (Array.replicate nd (0 : UInt8)):=fun j hj => by
 have hj' : j < nd:=by simpa using hj
 refine ⟨?_,World.frozen?_alloc_new _ _ _ _⟩
 rw [World.cell?_alloc_new,Lib.zeros24_at _ (by omega),getElem!_pos _ j hj]
 simp
theorem putRow_below (w : World) (o : Obj) (dk : Array UInt8) (k : Nat) : Below w.heap.size w ((putRow (fun (b : UInt8) => Value.int .u8 (b.toNat : Int)) (w.alloc o) w.heap.size 0 dk).drewN k):=by
 have h : ∃ os,putRow (fun (b : UInt8) => Value.int .u8 (b.toNat : Int)) (w.alloc o) w.heap.size 0 dk = grow w os:=by
  rw [alloc_eq_grow]
  obtain ⟨os',_,e⟩:=putRow_grow_new (fun (b : UInt8) => Value.int .u8 (b.toNat : Int)) w #[o] w.heap.size 0 dk (Nat.le_refl _)
  exact ⟨os',by rw [e]⟩
 obtain ⟨os,e⟩:=h
 rw [e]
 refine ⟨rfl,rfl,rfl,?_,?_⟩
 ·simp [grow,World.drewN]
 ·intro i hi
  simp [grow,World.drewN,Array.getElem?_append,hi]
theorem format60_any (u : Nat) (hu : u < 18446744073709551616) (w : World) (hr : Rdy w) :
 Calls Tryz.prog 253 #[.int .u64 u,.int .i64 10] w fun e w' => e = .returned (.string (bsOf (Lib.decDigits u))) ∧ Below w.heap.size w w':=by
 by_cases hs : u < 100
 ·have h100 : (u : Int) < 100:=by omega
  go_enter Tryz.func253,Tryz.ntmps253
  go_wp2_with fail
  refine (Tryz.internal_strconv_small u hs _).mono ?_
  rintro e w' ⟨rfl,rfl⟩
  go_wp2_with fail
  go_ret
  exact ⟨rfl,Below.refl _ _⟩
 ·have hu1 : 1 ≤ u:=by omega
  have hnd20 : Lib.nDigits u ≤ 20:=by have:=Lib.numDigits_eq u hu1 hu; split at this <;> omega
  have hal : Tryz.prog.arrayLen 304 = 24:=by simp [Program.arrayLen,Tryz.underlying304]
  have hsl1 : ∀ W,(Instr.sliceAt 304 (.pointer (some ⟨w.heap.size,0,none⟩)) none (some (.int .i64 (Lib.nDigits u : Int))) none).run Tryz.prog W = .ok (.slice (some ⟨w.heap.size,0,none⟩) (Lib.nDigits u) 24) W:=fun W => by
   rw [run_sliceAt_array_h W 304 ⟨w.heap.size,0,none⟩ (by simp [Program.arrayLen,Program.elem,Tryz.underlying304]) .i64 (Lib.nDigits u : Int) (by omega) (by rw [hal]; omega)]
   go_simp
  have hH0:=holds_zero0 w 304 (Lib.nDigits u) (by omega)
  have hfmt:=Tryz.internal_strconv_formatBase10 w.heap.size 0 24 u (Array.replicate (Lib.nDigits u) 0) (w.alloc (.cells Lib.zeros24 304)) hH0 (by rw [Array.size_replicate]; exact Lib.lt_pow_nDigits u) hu (by rw [Array.size_replicate]; omega)
  rw [Array.size_replicate] at hfmt
  have HH0:=Jh hH0
  have HF:=Jh hfmt
  have htab:=Jh (Lib.tabIs_alloc hr.tab (.cells Lib.zeros24 304))
  clear hH0 hal hfmt
  have h100 : ¬ (u : Int) < 100:=by omega
  go_enter Tryz.func253,Tryz.ntmps253
  go_wp2_with (go_at_call 268; refine (Tryz.internal_strconv_numDigits u hu1 hu _ htab.out).mono ?_; rintro e w' ⟨rfl,rfl⟩)
  refine HF.out.mono ?_
  rintro e w' ⟨rfl,k,v',dk,rfl,hF⟩
  have hcv : (convert 299 9 (.slice (some ⟨w.heap.size,0,none⟩) (Lib.nDigits u) 24)).run Tryz.prog ((putRow (fun (b : UInt8) => Value.int .u8 (b.toNat : Int)) (w.alloc (.cells Lib.zeros24 304)) w.heap.size 0 dk).drewN k) = .ok (.string ⟨(Lib.decDigits u).toArray⟩) ((putRow (fun (b : UInt8) => Value.int .u8 (b.toNat : Int)) (w.alloc (.cells Lib.zeros24 304)) w.heap.size 0 dk).drewN k):=by
   have h:=run_convert_bytes_back (P:=Tryz.prog) ((putRow (fun (b : UInt8) => Value.int .u8 (b.toNat : Int)) (w.alloc (.cells Lib.zeros24 304)) w.heap.size 0 dk).drewN k) 299 9 5 ⟨w.heap.size,0,none⟩ 24 (Lib.decDigits u) Tryz.underlying299 Tryz.underlying5 Tryz.underlying9 (fun j hj => by
    rw [Lib.row_is_numeral hF j hj,Lib.add_plain,World.cell?_drewN]
    exact cell?_putRow (fun (b : UInt8) => Value.int .u8 (b.toNat : Int)) _ w.heap.size 0 _ dk HH0.out (by rw [hF.size,Array.size_replicate]) j (by rw [hF.size]; rw [Lib.decDigits_length] at hj; exact hj))
   rw [Lib.decDigits_length] at h
   exact h
  go_wp2_with fail
  go_ret
  exact ⟨rfl,putRow_below _ _ _ _⟩
theorem format50_any (u : Nat) (hu : u < 18446744073709551616) (w : World) (hr : Rdy w) :
 Calls Tryz.prog 239 #[.int .u64 u,.int .i64 10] w fun e w' => e = .returned (.string (bsOf (Lib.decDigits u))) ∧ Below w.heap.size w w':=by
 go_enter Tryz.func239,Tryz.ntmps239
 go_wp2_with fail
 refine (format60_any u hu w hr).mono ?_
 rintro e w' ⟨rfl,hb⟩
 go_wp2_with fail
 go_ret
 exact ⟨rfl,hb⟩
end Go.Proofs.YtockinpjfhhkoaaGreatDoor
