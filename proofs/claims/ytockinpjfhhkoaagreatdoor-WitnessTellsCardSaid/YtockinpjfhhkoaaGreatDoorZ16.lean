/- strings.ContainsRune on the constant text of signs. -/
import Derived.Lib.OthersKept
import Derived.WalkMore
import Derived.Test.YtockinpjfhhkoaaGreatDoorZ11
import Derived.Test.YtockinpjfhhkoaaGreatDoorZ00
set_option maxRecDepth 100000
set_option maxHeartbeats 16000000
open Go.Lib renaming hid → Jh
namespace Go.Proofs.YtockinpjfhhkoaaGreatDoor
open Go.RowKit Go.Shelf
attribute [local go_sem ↓] Go.wp_at_zero Go.wp_at_succ
theorem z2n (l : List UInt8) (c : UInt8) (h : ∀ b ∈ l,b ≠ c) : Lib.indexByte l c = -1:=by
 induction l with
 | nil => rfl
 | cons b r ih =>
  have h1 : b ≠ c:=h b (by simp)
  have h2:=ih (fun x hx => h x (by simp [hx]))
  simp [Lib.indexByte,h1,h2]
theorem irune_bad (S : ByteArray) (hS : S.size = 15) (hall : ∀ b ∈ S.data.toList,b.toNat < 128) (w : World) :
 Calls Tryz.prog 226 #[.string S,.int .i32 65533] w fun e w' => e = .returned (.int .i64 (-1)) ∧ Below w.heap.size w w':=by
 have HA:=Jh hall
 clear hall
 go_enter Tryz.func226,Tryz.ntmps226
 go_wp2_with fail
 go_loopw [] (fun wr => ∃ pos,pos ≤ 15 ∧ wr.heap[w.heap.size]? = some (.stringIter S pos) ∧ Below w.heap.size w wr) (fun wr => 15 - wr.iterPos w.heap.size)
 case atStart => exact ⟨0,by omega,World.iter_heap w S 0,(Below.refl _ w).alloc (Nat.le_refl _) _⟩
 case round =>
  obtain ⟨pos,hp,hit,hbw⟩:=hrel
  by_cases hlt : pos < 15
  ·have hps : pos < S.size:=by omega
   have h128 : (S[pos]'hps).toNat < 128:=HA.out _ (by rw [z2l S pos hps]; exact List.getElem_mem _)
   have hnx : ∀ ty,(Instr.next (.pointer (some ⟨w.heap.size,0,none⟩)) true ty).run Tryz.prog wr = _:=fun ty => Lib.run_next_ascii_at wr w.heap.size S pos ty hit hps h128
   have hit2:=Lib.iterAt_heap wr w.heap.size S pos (pos + 1) hit
   have hbw2:=Lib.below_iterAt hbw (k:=w.heap.size) (by omega) S (pos + 1)
   generalize (S[pos]'hps).toNat = c at h128 hnx
   have hc : ((c : Int) == 65533) = false:=by simp; omega
   go_wp2_with fail
   refine ⟨⟨pos + 1,by omega,hit2,hbw2⟩,?_⟩
   simp only [World.iterPos,hit2,hit]
   omega
  ·have hnx : ∀ ty,(Instr.next (.pointer (some ⟨w.heap.size,0,none⟩)) true ty).run Tryz.prog wr = _:=fun ty => Lib.run_next_end_at wr w.heap.size S pos ty hit (by omega)
   go_wp2_with fail
   go_ret
   exact ⟨rfl,hbw⟩
theorem irune_none (S : ByteArray) (r : Int) (hv : Lib.validRune r = false) (h0 : 128 ≤ r) (h1 : r ≠ 65533) (w : World) :
 Calls Tryz.prog 226 #[.string S,.int .i32 r] w fun e w' => e = .returned (.int .i64 (-1)) ∧ w' = w:=by
 have HV:=Jh hv
 have hb : (r == 65533) = false:=by simpa using h1
 have hb2 : decide (r < 128) = false:=by simp; omega
 clear hv h1
 go_enter Tryz.func226,Tryz.ntmps226
 go_wp2_with (go_at_call 241; refine (Tryz.utf8_ValidRune r _).mono ?_; rintro e w' ⟨rfl,rfl⟩; rw [HV.out])
 go_ret
 exact ⟨rfl,rfl⟩
theorem irune_far (S : ByteArray) (hS : S.size = 15) (hall : ∀ b ∈ S.data.toList,b.toNat < 128) (r : Int) (hv : Lib.validRune r = true) (h0 : 128 ≤ r) (h1 : r ≠ 65533) (w : World) :
 Calls Tryz.prog 226 #[.string S,.int .i32 r] w fun e w' => e = .returned (.int .i64 (-1)) ∧ Below w.heap.size w w':=by
 have HV:=Jh hv
 have HA:=Jh hall
 have hval : Utf8.valid r = true:=by
  simp only [Lib.validRune,decide_eq_true_eq] at hv
  simp only [Utf8.valid,Bool.or_eq_true,Bool.and_eq_true,decide_eq_true_eq]
  omega
 obtain ⟨e2,e4,hE⟩:=encode_facts r hval h0
 have hb : (r == 65533) = false:=by simpa using h1
 have hb2 : decide (r < 128) = false:=by simp; omega
 have hconv : ∀ W,(convert 21 9 (.int .i32 r)).run Tryz.prog W = .ok (.string (Utf8.encode r)) W:=fun W => run_convert_int_string W 21 9 .i32 r (by rw [Tryz.underlying21]; rfl) Tryz.underlying9
 clear hv h1 hall hval
 have hsz : (Utf8.encode r).size = 2 ∨ (Utf8.encode r).size = 3 ∨ (Utf8.encode r).size = 4:=by omega
 clear e2 e4
 rcases hsz with hsz | hsz | hsz
 ·have hl:=hE (by omega)
  have hlast : (Utf8.encode r).size - 1 = 1:=by omega
  simp only [hlast] at hl
  have hc1 : ∀ W,(Instr.index 9 (.string (Utf8.encode r)) (.int .i64 1)).run Tryz.prog W = .ok (.int .u8 ((Utf8.encode r)[1]'(by omega)).toNat) W:=fun W => by
   rw [run_index_string W 9 (Utf8.encode r) .i64 _ Tryz.underlying9,dif_pos (by omega)]
   rfl
  have hs1 : ∀ W,(Instr.index 9 (.string S) (.int .i64 1)).run Tryz.prog W = .ok (.int .u8 (S[1]'(by omega)).toNat) W:=fun W => by
   rw [run_index_string W 9 S .i64 _ Tryz.underlying9,dif_pos (by omega)]
   rfl
  have h128s : (S[1]'(by omega)).toNat < 128:=HA.out _ (by rw [z2l S 1 (by omega)]; exact List.getElem_mem _)
  generalize (Utf8.encode r)[1]'(by omega) = c at hl hc1
  generalize S[1]'(by omega) = d at h128s hs1
  have hne : ((d.toNat : Int) == (c.toNat : Int)) = false:=by simp; omega
  have hne2 : ((d.toNat : Int) != (c.toNat : Int)) = true:=by simp; omega
  have hib : Lib.indexByte (S.extract 2 15).data.toList c = -1:=by
   refine z2n _ _ (fun b hb => ?_)
   rw [Lib.extract_data] at hb
   have:=HA.out b (List.mem_of_mem_drop (List.mem_of_mem_take hb))
   intro e; subst e; omega
  have HIB : Hid (∀ W,Calls Tryz.prog 240 #[.string (S.extract 2 15),.int .u8 c.toNat] W fun e w' => e = .returned (.int .i64 (-1)) ∧ w' = W):=fun W => by
   refine (Tryz.strings_IndexByte _ _ W).mono ?_
   rintro e w' ⟨rfl,rfl⟩
   have : ((c.toNat : Int)).toNat.toUInt8 = c:=by simp
   rw [this,hib]; exact ⟨rfl,rfl⟩
  have hsl : ∀ W,(Instr.slice 9 (.string S) (some (.int .i64 2)) none none).run Tryz.prog W = .ok (.string (S.extract 2 15)) W:=fun W => by
   rw [run_slice_string_from_if W 9 S .i64 2 Tryz.underlying9,if_pos (by omega),hS]
   rfl
  clear hib hl hE
  generalize Utf8.encode r = R at hsz hc1 hconv
  generalize S.extract 2 15 = T at hsl HIB
  have hwn : IntKind.i64.wrap 2 = 2:=by decide
  go_enter Tryz.func226,Tryz.ntmps226
  go_wp2_with (go_at_call 241; refine (Tryz.utf8_ValidRune r _).mono ?_; rintro e w' ⟨rfl,rfl⟩; rw [HV.out])
  go_step3
  go_wp2_with fail
  go_loop [9,10] (fun vi vf => vi = .int .i64 1 ∧ vf = .int .i64 0) (fun _ _ => 0)
  case atStart => exact ⟨rfl,rfl⟩
  case round =>
   obtain ⟨rfl,rfl⟩:=hrel
   go_wp2_with fail
   go_step3
   go_wp2_with fail
   go_quiet (fail)
   have HW2 : Hid (Below w'.heap.size w' (w'.drewN nq)):=z1k (Below.refl _ _) _
   generalize w'.drewN nq = W2 at HW2 ⊢
   go_wp2_with fail
   go_quiet (first | (go_at_call 240; refine Calls.quiet_of_same (HIB.out _)))
   go_wp2_with fail
   rw [Exit.noGoto_ret]
   go_wp2_with fail
   rw [Exit.noGoto_ret]
   try go_wp2_with fail
   go_ret
   exact ⟨rfl,z1k HW2.out _⟩
 ·have hl:=hE (by omega)
  have hlast : (Utf8.encode r).size - 1 = 2:=by omega
  simp only [hlast] at hl
  have hc1 : ∀ W,(Instr.index 9 (.string (Utf8.encode r)) (.int .i64 2)).run Tryz.prog W = .ok (.int .u8 ((Utf8.encode r)[2]'(by omega)).toNat) W:=fun W => by
   rw [run_index_string W 9 (Utf8.encode r) .i64 _ Tryz.underlying9,dif_pos (by omega)]
   rfl
  have hs1 : ∀ W,(Instr.index 9 (.string S) (.int .i64 2)).run Tryz.prog W = .ok (.int .u8 (S[2]'(by omega)).toNat) W:=fun W => by
   rw [run_index_string W 9 S .i64 _ Tryz.underlying9,dif_pos (by omega)]
   rfl
  have h128s : (S[2]'(by omega)).toNat < 128:=HA.out _ (by rw [z2l S 2 (by omega)]; exact List.getElem_mem _)
  generalize (Utf8.encode r)[2]'(by omega) = c at hl hc1
  generalize S[2]'(by omega) = d at h128s hs1
  have hne : ((d.toNat : Int) == (c.toNat : Int)) = false:=by simp; omega
  have hne2 : ((d.toNat : Int) != (c.toNat : Int)) = true:=by simp; omega
  have hib : Lib.indexByte (S.extract 3 15).data.toList c = -1:=by
   refine z2n _ _ (fun b hb => ?_)
   rw [Lib.extract_data] at hb
   have:=HA.out b (List.mem_of_mem_drop (List.mem_of_mem_take hb))
   intro e; subst e; omega
  have HIB : Hid (∀ W,Calls Tryz.prog 240 #[.string (S.extract 3 15),.int .u8 c.toNat] W fun e w' => e = .returned (.int .i64 (-1)) ∧ w' = W):=fun W => by
   refine (Tryz.strings_IndexByte _ _ W).mono ?_
   rintro e w' ⟨rfl,rfl⟩
   have : ((c.toNat : Int)).toNat.toUInt8 = c:=by simp
   rw [this,hib]; exact ⟨rfl,rfl⟩
  have hsl : ∀ W,(Instr.slice 9 (.string S) (some (.int .i64 3)) none none).run Tryz.prog W = .ok (.string (S.extract 3 15)) W:=fun W => by
   rw [run_slice_string_from_if W 9 S .i64 3 Tryz.underlying9,if_pos (by omega),hS]
   rfl
  clear hib hl hE
  generalize Utf8.encode r = R at hsz hc1 hconv
  generalize S.extract 3 15 = T at hsl HIB
  have hwn : IntKind.i64.wrap 3 = 3:=by decide
  go_enter Tryz.func226,Tryz.ntmps226
  go_wp2_with (go_at_call 241; refine (Tryz.utf8_ValidRune r _).mono ?_; rintro e w' ⟨rfl,rfl⟩; rw [HV.out])
  go_step3
  go_wp2_with fail
  go_loop [9,10] (fun vi vf => vi = .int .i64 2 ∧ vf = .int .i64 0) (fun _ _ => 0)
  case atStart => exact ⟨rfl,rfl⟩
  case round =>
   obtain ⟨rfl,rfl⟩:=hrel
   go_wp2_with fail
   go_step3
   go_wp2_with fail
   go_quiet (fail)
   have HW2 : Hid (Below w'.heap.size w' (w'.drewN nq)):=z1k (Below.refl _ _) _
   generalize w'.drewN nq = W2 at HW2 ⊢
   go_wp2_with fail
   go_quiet (first | (go_at_call 240; refine Calls.quiet_of_same (HIB.out _)))
   go_wp2_with fail
   rw [Exit.noGoto_ret]
   go_wp2_with fail
   rw [Exit.noGoto_ret]
   try go_wp2_with fail
   go_ret
   exact ⟨rfl,z1k HW2.out _⟩
 ·have hl:=hE (by omega)
  have hlast : (Utf8.encode r).size - 1 = 3:=by omega
  simp only [hlast] at hl
  have hc1 : ∀ W,(Instr.index 9 (.string (Utf8.encode r)) (.int .i64 3)).run Tryz.prog W = .ok (.int .u8 ((Utf8.encode r)[3]'(by omega)).toNat) W:=fun W => by
   rw [run_index_string W 9 (Utf8.encode r) .i64 _ Tryz.underlying9,dif_pos (by omega)]
   rfl
  have hs1 : ∀ W,(Instr.index 9 (.string S) (.int .i64 3)).run Tryz.prog W = .ok (.int .u8 (S[3]'(by omega)).toNat) W:=fun W => by
   rw [run_index_string W 9 S .i64 _ Tryz.underlying9,dif_pos (by omega)]
   rfl
  have h128s : (S[3]'(by omega)).toNat < 128:=HA.out _ (by rw [z2l S 3 (by omega)]; exact List.getElem_mem _)
  generalize (Utf8.encode r)[3]'(by omega) = c at hl hc1
  generalize S[3]'(by omega) = d at h128s hs1
  have hne : ((d.toNat : Int) == (c.toNat : Int)) = false:=by simp; omega
  have hne2 : ((d.toNat : Int) != (c.toNat : Int)) = true:=by simp; omega
  have hib : Lib.indexByte (S.extract 4 15).data.toList c = -1:=by
   refine z2n _ _ (fun b hb => ?_)
   rw [Lib.extract_data] at hb
   have:=HA.out b (List.mem_of_mem_drop (List.mem_of_mem_take hb))
   intro e; subst e; omega
  have HIB : Hid (∀ W,Calls Tryz.prog 240 #[.string (S.extract 4 15),.int .u8 c.toNat] W fun e w' => e = .returned (.int .i64 (-1)) ∧ w' = W):=fun W => by
   refine (Tryz.strings_IndexByte _ _ W).mono ?_
   rintro e w' ⟨rfl,rfl⟩
   have : ((c.toNat : Int)).toNat.toUInt8 = c:=by simp
   rw [this,hib]; exact ⟨rfl,rfl⟩
  have hsl : ∀ W,(Instr.slice 9 (.string S) (some (.int .i64 4)) none none).run Tryz.prog W = .ok (.string (S.extract 4 15)) W:=fun W => by
   rw [run_slice_string_from_if W 9 S .i64 4 Tryz.underlying9,if_pos (by omega),hS]
   rfl
  clear hib hl hE
  generalize Utf8.encode r = R at hsz hc1 hconv
  generalize S.extract 4 15 = T at hsl HIB
  have hwn : IntKind.i64.wrap 4 = 4:=by decide
  go_enter Tryz.func226,Tryz.ntmps226
  go_wp2_with (go_at_call 241; refine (Tryz.utf8_ValidRune r _).mono ?_; rintro e w' ⟨rfl,rfl⟩; rw [HV.out])
  go_step3
  go_wp2_with fail
  go_loop [9,10] (fun vi vf => vi = .int .i64 3 ∧ vf = .int .i64 0) (fun _ _ => 0)
  case atStart => exact ⟨rfl,rfl⟩
  case round =>
   obtain ⟨rfl,rfl⟩:=hrel
   go_wp2_with fail
   go_step3
   go_wp2_with fail
   go_quiet (fail)
   have HW2 : Hid (Below w'.heap.size w' (w'.drewN nq)):=z1k (Below.refl _ _) _
   generalize w'.drewN nq = W2 at HW2 ⊢
   go_wp2_with fail
   go_quiet (first | (go_at_call 240; refine Calls.quiet_of_same (HIB.out _)))
   go_wp2_with fail
   rw [Exit.noGoto_ret]
   go_wp2_with fail
   rw [Exit.noGoto_ret]
   try go_wp2_with fail
   go_ret
   exact ⟨rfl,z1k HW2.out _⟩
def signsL : List UInt8:=[124,38,59,43,60,62,95,91,93,40,41,44,33,123,125]
theorem signs_all : ∀ b ∈ signsL,b.toNat < 128:=by decide
theorem signs_has_fin : ∀ i : Fin 256,decide (0 ≤ Lib.indexByte signsL (UInt8.ofNat i.val)) = z0n (UInt8.ofNat i.val):=by decide +kernel
theorem contains24_any (r : Int) (h0 : 0 ≤ r) (h1 : r ≤ 1114111) (w : World) :
 Calls Tryz.prog 196 #[.string ⟨#[124,38,59,43,60,62,95,91,93,40,41,44,33,123,125]⟩,.int .i32 r] w fun e w' =>
  e = .returned (.bool (decide (r < 128) && z0n r.toNat.toUInt8)) ∧ Below w.heap.size w w':=by
 by_cases h : r < 128
 ·refine (Tryz.strings_ContainsRune_ascii _ r w h0 h).mono ?_
  rintro e w' ⟨rfl,rfl⟩
  refine ⟨?_,Below.refl _ _⟩
  have:=signs_has_fin ⟨r.toNat,by omega⟩
  rw [decide_eq_true h,Bool.true_and]
  exact congrArg (fun b => Ending.returned (Value.bool b)) this
 ·have hd : decide (r < 128) = false:=by simpa using h
  rw [hd,Bool.false_and]
  have HI : Hid (Calls Tryz.prog 226 #[.string ⟨#[124,38,59,43,60,62,95,91,93,40,41,44,33,123,125]⟩,.int .i32 r] w fun e w' => e = .returned (.int .i64 (-1)) ∧ Below w.heap.size w w'):=by
   by_cases hb : r = 65533
   ·subst hb; exact irune_bad _ rfl signs_all w
   ·cases hv : Lib.validRune r with
    | false =>
     refine (irune_none _ r hv (by omega) hb w).mono ?_
     rintro e w' ⟨rfl,rfl⟩
     exact ⟨rfl,Below.refl _ _⟩
    | true => exact irune_far _ rfl signs_all r hv (by omega) hb w
  generalize (⟨#[124,38,59,43,60,62,95,91,93,40,41,44,33,123,125]⟩ : ByteArray) = S at HI
  clear hd h h0 h1
  go_enter Tryz.func196,Tryz.ntmps196
  go_wp2_with fail
  refine HI.out.mono ?_
  rintro e w1 ⟨rfl,hb⟩
  go_wp2_with fail
  go_ret
  exact ⟨rfl,hb⟩
end Go.Proofs.YtockinpjfhhkoaaGreatDoor
