/- Layer 16 walked: intervals; strings sought in a row of names; names of a formula that are declared. -/
import Derived.Test.YtockinpjfhhkoaaGreatDoorZ02
import Derived.Deep.QuietTactic
import Derived.BigQuiet
import Derived.Laws.Bits128
import Derived.OwnWalk
import Derived.Test.YtockinpjfhhkoaaGreatDoorZ05
set_option maxRecDepth 100000
set_option maxHeartbeats 16000000
open Go.Lib renaming hid → Jh
namespace Go.Proofs.YtockinpjfhhkoaaGreatDoor
open Go.RowKit
theorem z2l {k : IntKind} {a b : Int} (h : a = b) : Ending.returned (.int k a) = .returned (.int k b):=by rw [h]
theorem below27_any (n : Int) (w : World) : Calls Tryz.prog 142 #[.int .i64 n] w fun e w' => e = .returned (.bool (belowC n)) ∧ w' = w:=by
 go_enter Tryz.func142,Tryz.ntmps142
 go_wp2
 all_goals go_ret
 all_goals (refine ret_bool ?_; unfold belowC; rw [Bool.eq_iff_iff]; simp_all; try omega)
def Spn.val (i : Spn) : Value:=.agg #[.int .i64 i.low,.bool i.ls,.int .i64 i.high,.bool i.hs,.bool i.op]
theorem z7r (i : Spn) (w : World) : Calls Tryz.prog 76 #[i.val] w fun e w' => e = .returned (.int .i64 (ivR i)) ∧ Below w.heap.size w w':=by
 obtain ⟨lo,ls,hi,hs,op⟩:=i
 unfold Spn.val
 dsimp only
 go_enter Tryz.func76,Tryz.ntmps76
 go_wp2_with (go_at_call 142; refine (below27_any _ _).mono ?_; rintro e w' ⟨rfl,rfl⟩)
 all_goals go_ret
 all_goals (refine ⟨?_,(Below.refl _ _).alloc (Nat.le_refl _) _⟩; refine z2l ?_; unfold ivR; dsimp only; simp_all; try omega)
open Go.RowKit
def idxN (s : ByteArray) (l : List ByteArray) : Int:=match l.findIdx? (fun x => s.toList == x.toList) with
 | some k => k
 | none => -1
theorem idxN_at (s : ByteArray) (l : List ByteArray) (j : Nat) (h : j < l.length) (h0 : ∀ i (hi : i < l.length),i < j → (s.toList == (l[i]).toList) = false) (h1 : (s.toList == (l[j]).toList) = true) : idxN s l = j:=by
 have : l.findIdx? (fun x => s.toList == x.toList) = some j:=by
  rw [List.findIdx?_eq_some_iff_getElem]
  exact ⟨h,h1,fun i hi => by rw [h0 i (by omega) hi]; simp⟩
 unfold idxN; rw [this]
theorem idxN_none (s : ByteArray) (l : List ByteArray) (h0 : ∀ i (hi : i < l.length),i < l.length → (s.toList == (l[i]).toList) = false) : idxN s l = -1:=by
 have : l.findIdx? (fun x => s.toList == x.toList) = none:=by
  rw [List.findIdx?_eq_none_iff]
  intro x hx
  obtain ⟨i,hi,rfl⟩:=List.getElem_of_mem hx
  exact h0 i hi hi
 unfold idxN; rw [this]
theorem idxN_in (s : ByteArray) (l : List ByteArray) : decide (0 ≤ idxN s l) = inN s l:=by
 unfold idxN inN
 cases h : l.findIdx? (fun x => s.toList == x.toList) with
 | none =>
  rw [List.findIdx?_eq_none_iff] at h
  have : l.any (fun x => s.toList == x.toList) = false:=by
   rw [List.any_eq_false]; intro x hx; rw [h x hx]; simp
  rw [this]; rfl
 | some k =>
  rw [List.findIdx?_eq_some_iff_getElem] at h
  obtain ⟨hk,hp,_⟩:=h
  have : l.any (fun x => s.toList == x.toList) = true:=List.any_eq_true.2 ⟨_,List.getElem_mem hk,hp⟩
  rw [this]; simp
theorem zai (l : List ByteArray) (v : Value) (s : ByteArray) (w : World) (hn : NRep w w.heap.size v l) :
 Calls Tryz.prog 151 #[v,.string s] w fun e w' => e = .returned (.int .i64 (idxN s l)) ∧ w' = w:=by
 obtain ⟨a,c,rfl,hm,hn⟩:=hn
 have HA:=Jh (idxN_at s l)
 have HN:=Jh (idxN_none s l)
 go_enter Tryz.func151,Tryz.ntmps151
 go_wp2_with fail
 go_loopw [8] (fun i wr => ∃ j : Nat,j ≤ l.length ∧ i = .int .i64 j ∧ Hid (∀ i (hi : i < l.length),i < j → (s.toList == (l[i]).toList) = false) ∧ wr = w) (fun i _ => l.length - (intOf i).toNat)
 case atStart => exact ⟨0,Nat.zero_le _,rfl,fun _ _ h => absurd h (by omega),rfl⟩
 case round =>
  obtain ⟨j,hj,rfl,HT,rfl⟩:=hrel
  by_cases hlt : j < l.length
  ·rcases hn with hn | ⟨b,off,rfl,hb,hc⟩
   ·rw [hn] at hlt; exact absurd hlt (by simp)
   ·have c0:=hc j hlt
    have HC:=Jh hc
    clear hc
    have HAj:=Jh (HA.out j hlt HT.out)
    cases q : (s.toList == (l[j]).toList) with
    | true =>
     have HR:=Jh (HAj.out q)
     go_wp2_with fail
     all_goals go_ret
     all_goals exact ⟨z2l (by rw [HR.out]),rfl⟩
    | false =>
     have HR:=Jh q
     go_wp2_with fail
     go_roundw
     case rel => exact ⟨j + 1,by omega,by go_num,fun i hi hij => by
      rcases Nat.lt_or_ge i j with h | h
      ·exact HT.out i hi h
      ·obtain rfl : i = j:=by omega
       exact HR.out,trivial⟩
     case measure => simp [intOf]; omega
  ·have hje : j = l.length:=by omega
   have HR:=Jh (HN.out (fun i hi _ => HT.out i hi (by omega)))
   clear HT hn
   go_wp2_with fail
   all_goals go_ret
   all_goals exact ⟨z2l (by rw [HR.out]),rfl⟩
theorem contains53_any (l : List ByteArray) (v : Value) (s : ByteArray) (w : World) (hn : NRep w w.heap.size v l) :
 Calls Tryz.prog 134 #[v,.string s] w fun e w' => e = .returned (.bool (inN s l)) ∧ w' = w:=by
 have HI:=Jh (zai l v s w hn)
 have HE:=Jh (idxN_in s l)
 obtain ⟨a,c,rfl,hm,hn⟩:=hn
 clear hn
 go_enter Tryz.func134,Tryz.ntmps134
 go_wp2_with fail
 refine HI.out.mono ?_
 rintro e w1 ⟨rfl,rfl⟩
 go_wp2_with fail
 all_goals go_ret
 all_goals exact ⟨z02 HE.out,rfl⟩
theorem so52 (names : List ByteArray) (nv : Value) (b : Nat) (w : World) (hb : b < w.heap.size) (hc : w.cell? ⟨b,0,none⟩ = some nv) (hn : NRep w w.heap.size nv names) :
 SoF w 133 #[.pointer (some ⟨b,0,none⟩)] (z3o names):=by
 intro n
 refine ⟨z1r Tryz.func133 (by kernel_rfl) (by kernel_rfl),fun t v w' hb' hr => ?_⟩
 obtain ⟨k,s,of⟩:=t
 obtain ⟨a,c,rfl,_⟩:=hr
 dsimp only
 have hz:=hb'.size
 have hb1 : Below w.heap.size w (w'.alloc (.cells #[.int .u8 k,.string s,.slice a of.length c] 25)):=hb'.alloc hz _
 have HC:=Jh (contains53_any names nv s _ (hn.up hb1 hb1.size))
 have c0 : w'.cell? ⟨b,0,none⟩ = some nv:=(hb'.cell (p:=⟨b,0,none⟩) hb).trans hc
 have hbz : b < w'.heap.size:=by omega
 obtain ⟨na,nc,rfl,_⟩:=hn
 clear hb1 hc
 have hD : z3o names k s of.length = (k != 3 || inN s names):=rfl
 have HB : Hid (∀ o,Below w'.heap.size w' (w'.alloc o)):=fun o => (Below.refl _ _).alloc (Nat.le_refl _) o
 rw [hD]
 clear hD hb'
 show Calls Tryz.prog 133 #[_,_] w' _
 cases q : k != 3 with
 | true =>
  go_enter Tryz.func133,Tryz.ntmps133
  go_wp2_with fail
  all_goals go_ret
  all_goals exact ⟨rfl,HB.out _⟩
 | false =>
  go_enter Tryz.func133,Tryz.ntmps133
  go_wp2_with fail
  refine HC.out.mono ?_
  rintro e w1 ⟨rfl,rfl⟩
  go_wp2_with fail
  all_goals go_ret
  all_goals exact ⟨rfl,HB.out _⟩
theorem z6k (names : List ByteArray) (nv : Value) (b : Nat) (n : Nat) (t : FT n) (v : Value) (w : World) (hb : b < w.heap.size) (hc : w.cell? ⟨b,0,none⟩ = some nv) (hn : NRep w w.heap.size nv names) (hr : FRep w w.heap.size n t v) :
 Calls Tryz.prog 130 #[v,.pointer (some ⟨b,0,none⟩)] w fun e w' => e = .returned (.bool (allF (z3o names) n t)) ∧ Below w.heap.size w w':=by
 obtain ⟨k,s,a,l,c,rfl⟩:=hr.shape
 have hmf : ∀ (fn : Fn) (first cap : Array Value) (w : World),(Instr.makeFunc fn first cap).run Tryz.prog w = .ok (.func fn first cap) w:=fun _ _ _ _ => rfl
 have hbw : Below w.heap.size w (w.alloc (.cells #[.int .u8 k,.string s,.slice a l c] 25)):=(Below.refl _ _).alloc (Nat.le_refl _) _
 have HA:=Jh (z88 (z3o names) 133 #[.pointer (some ⟨b,0,none⟩)] n t _ _ (hr.up hbw hbw.size) ((so52 names nv b w hb hc hn).up hbw))
 have HB:=Jh hbw
 clear hbw hn hr hc
 go_enter Tryz.func130,Tryz.ntmps130
 go_wp2_with fail
 refine HA.out.mono ?_
 rintro e w1 ⟨rfl,hb1⟩
 have HB1:=Jh (HB.out.trans (hb1.mono HB.out.size))
 clear hb1
 go_wp2_with fail
 all_goals go_ret
 all_goals exact ⟨rfl,HB1.out⟩
theorem z4k (a : Option Addr) (l c : Nat) (w : World) :
 Calls Tryz.prog 67 #[.slice a l c] w fun e w' => e = .returned (.func (.func 130) #[] #[.pointer (some ⟨w.heap.size,0,none⟩)]) ∧ w' = w.alloc (.cells #[.slice a l c] 22):=by
 have hmf : ∀ (fn : Fn) (first cap : Array Value) (w : World),(Instr.makeFunc fn first cap).run Tryz.prog w = .ok (.func fn first cap) w:=fun _ _ _ _ => rfl
 go_enter Tryz.func67,Tryz.ntmps67
 go_wp2_with fail
 all_goals go_ret
 all_goals exact ⟨rfl,rfl⟩
open Go.RowKit
theorem i64_and1 (n : Int) : bits .and .i64 n 1 = n % 2:=by
 have h1 : (BitVec.ofInt 64 1).toNat = 2 ^ 1 - 1:=by decide
 have key : (BitVec.ofInt 64 n &&& BitVec.ofInt 64 1).toNat = (n % ((2 ^ 64 : Nat) : Int)).toNat % 2 ^ 1:=by
  rw [BitVec.toNat_and,BitVec.toNat_ofInt,h1,Nat.and_two_pow_sub_one_eq_mod]
 show IntKind.i64.wrap ((BitVec.ofInt 64 n &&& BitVec.ofInt 64 1).toNat : Nat) = n % 2
 rw [key,IntKind.wrap_i64]
 omega
def numE (a : Int) : Int:=if z9f a = true then 0 else 10
theorem numE_ok {a : Int} (h : z9f a = true) : numE a = 0:=by unfold numE; rw [if_pos h]
theorem numE_no {a : Int} (h : z9f a = false) : numE a = 10:=by unfold numE; rw [h]; rfl
theorem num221_any (a : Int) (w : World) : Calls Tryz.prog 221 #[.int .i64 a] w fun e w' => e = .returned (.int .i64 (numE a)) ∧ w' = w:=by
 go_enter Tryz.func221,Tryz.ntmps221
 go_wp2_with fail
 all_goals go_ret
 all_goals exact ⟨z2l (by unfold numE z9f; simp; omega),rfl⟩
theorem z01 {w : World} {o : Obj} {n : Nat} (h : n = w.heap.size) : (w.alloc o).heap[n]? = some o:=by subst h; exact Array.getElem?_push_size
theorem z08 (w : World) (o : Obj) : Below w.heap.size w (w.alloc o):=(Below.refl _ _).alloc (Nat.le_refl _) o
theorem belowAllocA {B : Nat} {w w' : World} (h : Below B w w') (hB : B ≤ w.heap.size) (o : Obj) : Below B w (w'.alloc o):=h.alloc (Nat.le_trans hB h.size) o
theorem of222_any (b : Int) (w : World) : Calls Tryz.prog 222 #[.int .i64 b] w fun e w' => e = .returned (.agg #[.int .i64 (b / 2),.bool (b % 2 == 0)]) ∧ Below w.heap.size w w':=by
 have h1:=i64_and1 b
 go_enter Tryz.func222,Tryz.ntmps222
 go_wp2_with fail
 refine bodyPost_ret (results_cell_row rfl _ _ _ _ _ _ _ rfl (z01 rfl) Tryz.underlying268 rfl (by kernel_rfl)) rfl ?_
 exact ⟨rfl,z08 _ _⟩
def chkE (b : Int) : Int:=if z5x b = true then 0 else 8
theorem chkE_ok {b : Int} (h : z5x b = true) : chkE b = 0:=by unfold chkE; rw [if_pos h]
theorem chkE_no {b : Int} (h : z5x b = false) : chkE b = 8:=by unfold chkE; rw [h]; rfl
theorem checkB_none : z5x z5m = true:=by decide
theorem checkB_num {b : Int} (h : b ≠ z5m) : z5x b = z9f (b / 2):=by
 unfold z5x
 have : (b == z5m) = false:=by simpa using h
 rw [this,Bool.false_or]
theorem fld268 (x y : Value) (w : World) : (Instr.field 268 (.agg #[x,y]) 0).run Tryz.prog w = .ok x w ∧ (Instr.field 268 (.agg #[x,y]) 1).run Tryz.prog w = .ok y w:=by
 refine ⟨?_,?_⟩ <;> simp [Instr.field,run_underlying Tryz.underlying268,Sem.run_bind,Result.andThen,go_sem] <;> rfl
theorem z9j (b : Int) (w : World) : Calls Tryz.prog 187 #[.int .i64 b] w fun e w' => e = .returned (.int .i64 (chkE b)) ∧ Below w.heap.size w w':=by
 by_cases hb : b = z5m
 ·subst hb
  have HE:=Jh (chkE_ok checkB_none)
  rw [HE.out]
  unfold z5m
  go_enter Tryz.func187,Tryz.ntmps187
  go_wp2_with fail
  all_goals go_ret
  all_goals exact ⟨rfl,Below.refl _ _⟩
 ·have HN:=Jh (checkB_num hb)
  have q1 : (b == 9223372036854775807) = false:=by simpa [z5m] using hb
  have q2 : (b != 9223372036854775807) = true:=by simpa [z5m] using hb
  have HO:=Jh (of222_any b w)
  have hfl:=fun W => (fld268 (.int .i64 (b / 2)) (.bool (b % 2 == 0)) W).1
  clear hb
  cases hk : z9f (b / 2) with
  | true =>
   have HE:=Jh (chkE_ok (HN.out.trans hk))
   rw [HE.out]
   have HK:=Jh (numE_ok hk)
   clear hk
   go_enter Tryz.func187,Tryz.ntmps187
   go_wp2_with fail
   refine HO.out.mono ?_
   rintro e w1 ⟨rfl,hb1⟩
   have HB:=Jh hb1
   clear hb1
   go_wp2_with fail
   refine (num221_any _ _).mono ?_
   rintro e w2 ⟨rfl,rfl⟩
   rw [HK.out]
   go_wp2_with fail
   all_goals go_ret
   all_goals exact ⟨rfl,HB.out⟩
  | false =>
   have HE:=Jh (chkE_no (HN.out.trans hk))
   rw [HE.out]
   have HK:=Jh (numE_no hk)
   clear hk
   go_enter Tryz.func187,Tryz.ntmps187
   go_wp2_with fail
   refine HO.out.mono ?_
   rintro e w1 ⟨rfl,hb1⟩
   have HB:=Jh hb1
   clear hb1
   go_wp2_with fail
   refine (num221_any _ _).mono ?_
   rintro e w2 ⟨rfl,rfl⟩
   rw [HK.out]
   go_wp2_with fail
   all_goals go_ret
   all_goals exact ⟨rfl,HB.out⟩
def valR (b : Int) : Int × Bool × Int:=if z5x b = false then (0,false,8) else if b = z5m then (0,false,6) else (b / 2,b % 2 == 0,0)
theorem value188_any (b : Int) (w : World) : Calls Tryz.prog 188 #[.int .i64 b] w fun e w' => e = .returned (.tuple #[.int .i64 (valR b).1,.bool (valR b).2.1,.int .i64 (valR b).2.2]) ∧ Below w.heap.size w w':=by
 have HC:=Jh (z9j b w)
 cases hk : z5x b with
 | false =>
  have HV : Hid (valR b = (0,false,8)):=by rw [Hid,valR,if_pos hk]
  have HK:=Jh (chkE_no hk)
  rw [HV.out]
  clear hk
  go_enter Tryz.func188,Tryz.ntmps188
  go_wp2_with fail
  refine HC.out.mono ?_
  rintro e w1 ⟨rfl,hb1⟩
  rw [HK.out]
  have HB:=Jh hb1
  clear hb1
  go_wp2_with fail
  all_goals go_ret3
  all_goals exact ⟨rfl,HB.out⟩
 | true =>
  have HK:=Jh (chkE_ok hk)
  by_cases hb : b = z5m
  ·have HV : Hid (valR b = (0,false,6)):=by rw [Hid,valR,hk,if_neg (by decide),if_pos hb]
   rw [HV.out]
   have q1 : (b == 9223372036854775807) = true:=by simpa [z5m] using hb
   clear hk hb
   go_enter Tryz.func188,Tryz.ntmps188
   go_wp2_with fail
   refine HC.out.mono ?_
   rintro e w1 ⟨rfl,hb1⟩
   rw [HK.out]
   have HB:=Jh hb1
   clear hb1
   go_wp2_with fail
   all_goals go_ret3
   all_goals exact ⟨rfl,HB.out⟩
  ·have HV : Hid (valR b = (b / 2,b % 2 == 0,0)):=by rw [Hid,valR,hk,if_neg (by decide),if_neg hb]
   rw [HV.out]
   have q1 : (b == 9223372036854775807) = false:=by simpa [z5m] using hb
   clear hk hb
   go_enter Tryz.func188,Tryz.ntmps188
   go_wp2_with fail
   refine HC.out.mono ?_
   rintro e w1 ⟨rfl,hb1⟩
   rw [HK.out]
   have HB:=Jh hb1
   clear hb1
   go_wp2_with fail
   refine (of222_any _ _).mono ?_
   rintro e w2 ⟨rfl,hb2⟩
   have HB2:=Jh (HB.out.trans (hb2.mono HB.out.size))
   clear hb2
   go_wp2_with fail
   go_quiet (fail)
   go_wp2_with fail
   all_goals go_ret3
   all_goals exact ⟨rfl,(belowAllocA HB2.out (Nat.le_refl _) _).trans ⟨rfl,rfl,rfl,Nat.le_refl _,fun _ _ => rfl⟩⟩
end Go.Proofs.YtockinpjfhhkoaaGreatDoor
