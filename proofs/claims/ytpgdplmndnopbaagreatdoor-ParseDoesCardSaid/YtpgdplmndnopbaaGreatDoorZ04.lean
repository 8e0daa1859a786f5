/- The book's parser walked: take, open, shut. -/
import Derived.Test.YtpgdplmndnopbaaGreatDoorZ03
import Derived.Test.YtpgdplmndnopbaaGreatDoorZ01
import Derived.Shelf.Strconv.Atoi
import Derived.Lib.ParseIntB
import Derived.Lib.ItoaNum
import Derived.Lib.ItoaLen
import Derived.Test.YtpgdplmndnopbaaGreatDoorZ00
set_option maxRecDepth 100000
set_option maxHeartbeats 16000000
namespace Go.Proofs.YtpgdplmndnopbaaGreatDoor
open Go.RowKit
theorem RP.same {pb tb : Nat} {w w1 w2 : World} {L L' : List Tok} {stop stop' : Int} {nx nx' : Nat} {d e b d' e' b' : Int} (h1 : Same pb tb w w1 L stop nx d e b) (h2 : Same pb tb w1 w2 L' stop' nx' d' e' b') : Same pb tb w w2 L' stop' nx' d' e' b':=⟨h2.1,h1.2.trans h2.2⟩
theorem z0i (pb tb : Nat) (L : List Tok) (stop : Int) (nx : Nat) (deep e bad : Int) (s : ByteArray) (he : e ≠ 0) (w : World) (h : RP pb tb w L stop nx deep e bad) :
 Calls Tryz.prog 203 #[.pointer (some ⟨pb,0,none⟩),.string s] w fun en w' => en = .returned (.tuple #[]) ∧ Same pb tb w w' L stop nx deep e bad:=by
 have HC:=Lib.hid (z08 pb tb L stop nx deep e bad s he w h)
 have HE:=Lib.hid he
 clear h he
 go_enter Tryz.func203,Tryz.ntmps203
 go_wp2_with fail
 refine HC.out.mono ?_
 rintro en w1 ⟨rfl,h1⟩
 have HF:=Lib.hid (z38 pb tb L stop nx deep e bad 170 HE.out w1 h1.1)
 have H1:=Lib.hid h1
 clear h1
 go_wp2_with fail
 refine HF.out.mono ?_
 rintro en w2 ⟨rfl,rfl⟩
 go_wp2_with fail
 all_goals first | go_end0 | refine bodyPost_ret (results_none rfl _ _ _) rfl ?_
 all_goals exact ⟨rfl,H1.out⟩
theorem z1r (pb tb : Nat) (L : List Tok) (stop : Int) (nx : Nat) (deep bad : Int) (s : ByteArray) (hs : s.data.toList ≠ []) (w : World) (h : RP pb tb w L stop nx deep 0 bad) (hq : isT s.data.toList (z01 L stop nx) = false) :
 Calls Tryz.prog 203 #[.pointer (some ⟨pb,0,none⟩),.string s] w fun en w' => en = .returned (.tuple #[]) ∧ Same pb tb w w' L stop nx deep 170 (z05 (z01 L stop nx)):=by
 have HC:=Lib.hid (z0e pb tb L stop nx deep bad s hs w h)
 rw [hq] at HC
 clear h hs hq
 go_enter Tryz.func203,Tryz.ntmps203
 go_wp2_with fail
 refine HC.out.mono ?_
 rintro en w1 ⟨rfl,h1⟩
 have HF:=Lib.hid (z2z pb tb L stop nx deep bad 170 w1 h1.1)
 have H1:=Lib.hid h1
 clear h1
 go_wp2_with fail
 refine HF.out.mono ?_
 rintro en w2 ⟨rfl,h2⟩
 have H2:=Lib.hid (RP.same H1.out h2)
 clear h2
 go_wp2_with fail
 all_goals first | go_end0 | refine bodyPost_ret (results_none rfl _ _ _) rfl ?_
 all_goals exact ⟨rfl,H2.out⟩
theorem z1q (pb tb : Nat) (L : List Tok) (stop : Int) (nx : Nat) (deep bad : Int) (s : ByteArray) (hs : s.data.toList ≠ []) (w : World) (h : RP pb tb w L stop nx deep 0 bad) (hq : isT s.data.toList (z01 L stop nx) = true) :
 Calls Tryz.prog 203 #[.pointer (some ⟨pb,0,none⟩),.string s] w fun en w' => en = .returned (.tuple #[]) ∧ Same pb tb w w' L stop (nx + 1) deep 0 bad:=by
 have HC:=Lib.hid (z0e pb tb L stop nx deep bad s hs w h)
 rw [hq] at HC
 clear h hs hq
 go_enter Tryz.func203,Tryz.ntmps203
 go_wp2_with fail
 refine HC.out.mono ?_
 rintro en w1 ⟨rfl,h1⟩
 have H1:=Lib.hid h1
 clear h1
 go_wp2_with fail
 all_goals first | go_end0 | refine bodyPost_ret (results_none rfl _ _ _) rfl ?_
 all_goals exact ⟨rfl,H1.out⟩
theorem z1i (pb tb : Nat) (L : List Tok) (stop : Int) (nx : Nat) (deep e bad : Int) (s : ByteArray) (w : World)
 (hC : Calls Tryz.prog 147 #[.pointer (some ⟨pb,0,none⟩),.string s] w fun en w' => en = .returned (.bool false) ∧ Same pb tb w w' L stop nx deep e bad) :
 Calls Tryz.prog 201 #[.pointer (some ⟨pb,0,none⟩),.string s] w fun en w' => en = .returned (.bool false) ∧ Same pb tb w w' L stop nx deep e bad:=by
 have HC:=Lib.hid hC
 clear hC
 go_enter Tryz.func201,Tryz.ntmps201
 go_wp2_with fail
 refine HC.out.mono ?_
 rintro en w1 ⟨rfl,h1⟩
 have H1:=Lib.hid h1
 clear h1
 go_wp2_with fail
 all_goals go_ret
 all_goals exact ⟨rfl,H1.out⟩
theorem z4a (pb tb : Nat) (L : List Tok) (stop : Int) (nx : Nat) (bad : Int) (s : ByteArray) (hs : s.data.toList ≠ []) (w : World) (h : RP pb tb w L stop nx 64 0 bad) (hq : isT s.data.toList (z01 L stop nx) = true) :
 Calls Tryz.prog 201 #[.pointer (some ⟨pb,0,none⟩),.string s] w fun en w' => en = .returned (.bool false) ∧ Same pb tb w w' L stop nx 65 171 (z05 (z01 L stop nx)):=by
 have HC:=Lib.hid (z1t pb tb L stop nx 64 bad s hs w h)
 rw [hq] at HC
 clear h hs hq
 go_enter Tryz.func201,Tryz.ntmps201
 go_wp2_with fail
 refine HC.out.mono ?_
 rintro en w1 ⟨rfl,h1⟩
 obtain ⟨a,cap,hb,_⟩:=h1.1.blk
 have x3:=Lib.cell_of_heap hb 3
 have f3:=Lib.frozen_of_heap hb 3
 simp only [List.getElem?_toArray,List.getElem?_cons_zero,List.getElem?_cons_succ] at x3
 obtain ⟨W2,hW2⟩ : ∃ W2,W2 = w1.setCell ⟨pb,3,none⟩ (.int .i64 65):=⟨_,rfl⟩
 have h2 : Same pb tb w W2 L stop nx 65 0 bad:=by
  rw [hW2]
  exact ⟨h1.1.set (z2u (Bt.refl _ _) _ _) h1.1.le (fun a cap hk => z5x hk 3 (.int .i64 65)),z2u h1.2 _ _⟩
 have HF:=Lib.hid (z2z pb tb L stop nx 65 bad 171 W2 h2.1)
 have H2:=Lib.hid h2
 rw [hW2] at HF
 clear h1 hb h2
 go_wp2_with fail
 refine HF.out.mono ?_
 rintro en w3 ⟨rfl,h3⟩
 rw [← hW2] at h3
 have H3:=Lib.hid (RP.same H2.out h3)
 clear h3 hW2
 go_wp2_with fail
 all_goals go_ret
 all_goals exact ⟨rfl,H3.out⟩
theorem z5k (pb tb : Nat) (L : List Tok) (stop : Int) (nx : Nat) (deep bad : Int) (hd : 0 ≤ deep) (hd2 : deep < 64) (s : ByteArray) (hs : s.data.toList ≠ []) (w : World) (h : RP pb tb w L stop nx deep 0 bad) (hq : isT s.data.toList (z01 L stop nx) = true) :
 Calls Tryz.prog 201 #[.pointer (some ⟨pb,0,none⟩),.string s] w fun en w' => en = .returned (.bool true) ∧ Same pb tb w w' L stop (nx + 1) (deep + 1) 0 bad:=by
 have HC:=Lib.hid (z1t pb tb L stop nx deep bad s hs w h)
 have hlt:=z0z hs hq
 rw [hq] at HC
 have hlen:=h.len
 clear h hs hq
 go_enter Tryz.func201,Tryz.ntmps201
 go_wp2_with fail
 refine HC.out.mono ?_
 rintro en w1 ⟨rfl,h1⟩
 obtain ⟨a,cap,hb,_⟩:=h1.1.blk
 have x2:=Lib.cell_of_heap hb 2
 have x3:=Lib.cell_of_heap hb 3
 have f2:=Lib.frozen_of_heap hb 2
 have f3:=Lib.frozen_of_heap hb 3
 simp only [List.getElem?_toArray,List.getElem?_cons_zero,List.getElem?_cons_succ] at x2 x3
 have HOUT : Hid (Same pb tb w ((w1.setCell ⟨pb,3,none⟩ (.int .i64 (deep + 1))).setCell ⟨pb,2,none⟩ (.int .i64 ((nx : Int) + 1))) L stop (nx + 1) (deep + 1) 0 bad) :=
  ⟨h1.1.set (z2u (z2u (Bt.refl _ _) _ _) _ _) (by omega) (fun a cap hk => by have:=z5x (z5x hk 3 (.int .i64 (deep + 1))) 2 (.int .i64 ((nx : Int) + 1)); push_cast; exact this),z2u (z2u h1.2 _ _) _ _⟩
 clear h1 hb
 go_wp2_with fail
 all_goals go_ret
 all_goals exact ⟨rfl,HOUT.out⟩
theorem z1v (pb tb : Nat) (L L' : List Tok) (stop stop' : Int) (nx' : Nat) (deep' e' bad' : Int) (hd : -1000000 ≤ deep') (hd2 : deep' ≤ 1000000) (s : ByteArray) (w : World)
 (hC : Calls Tryz.prog 203 #[.pointer (some ⟨pb,0,none⟩),.string s] w fun en w' => en = .returned (.tuple #[]) ∧ Same pb tb w w' L' stop' nx' deep' e' bad') :
 Calls Tryz.prog 202 #[.pointer (some ⟨pb,0,none⟩),.string s] w fun en w' => en = .returned (.tuple #[]) ∧ Same pb tb w w' L' stop' nx' (deep' - 1) e' bad':=by
 have HC:=Lib.hid hC
 clear hC
 go_enter Tryz.func202,Tryz.ntmps202
 go_wp2_with fail
 refine HC.out.mono ?_
 rintro en w1 ⟨rfl,h1⟩
 obtain ⟨a,cap,hb,_⟩:=h1.1.blk
 have x3:=Lib.cell_of_heap hb 3
 have f3:=Lib.frozen_of_heap hb 3
 simp only [List.getElem?_toArray,List.getElem?_cons_zero,List.getElem?_cons_succ] at x3
 have HOUT : Hid (Same pb tb w (w1.setCell ⟨pb,3,none⟩ (.int .i64 (deep' - 1))) L' stop' nx' (deep' - 1) e' bad') :=
  ⟨h1.1.set (z2u (Bt.refl _ _) _ _) h1.1.le (fun a cap hk => z5x hk 3 (.int .i64 (deep' - 1))),z2u h1.2 _ _⟩
 clear h1 hb
 go_wp2_with fail
 all_goals first | go_end0 | refine bodyPost_ret (results_none rfl _ _ _) rfl ?_
 all_goals exact ⟨rfl,HOUT.out⟩
end Go.Proofs.YtpgdplmndnopbaaGreatDoor
namespace Go.Proofs.YtpgdplmndnopbaaGreatDoor
open Go.RowKit
theorem digV_bound : ∀ (l : List UInt8) (a : Int) (k : Nat),(∀ c ∈ l,48 ≤ c ∧ c ≤ 57) → 0 ≤ a → a < 10 ^ k →
 0 ≤ l.foldl (fun n c => 10 * n + ((c.toNat : Int) - 48)) a ∧ l.foldl (fun n c => 10 * n + ((c.toNat : Int) - 48)) a < 10 ^ (k + l.length)
 | [],a,k,_,h0,h1 => ⟨h0,by simpa using h1⟩
 | c :: r,a,k,hc,h0,h1 => by
  obtain ⟨c1,c2⟩:=hc c (by simp)
  have d1 : 48 ≤ c.toNat:=by simpa [UInt8.le_iff_toNat_le] using c1
  have d2 : c.toNat ≤ 57:=by simpa [UInt8.le_iff_toNat_le] using c2
  have hp : (10 : Int) ^ (k + 1) = 10 ^ k * 10:=Int.pow_succ 10 k
  have:=digV_bound r (10 * a + ((c.toNat : Int) - 48)) (k + 1) (fun d hd => hc d (by simp [hd])) (by omega) (by rw [hp]; omega)
  rw [List.foldl_cons,List.length_cons,show k + (r.length + 1) = k + 1 + r.length by omega]
  exact this
theorem digV_take {l : List UInt8} (hc : ∀ c ∈ l,48 ≤ c ∧ c ≤ 57) (hl : l.length ≤ 18) (j : Nat) : 0 ≤ z10 (l.take j) ∧ z10 (l.take j) < 1000000000000000000:=by
 obtain ⟨h1,h2⟩:=digV_bound (l.take j) 0 0 (fun c h => hc c (List.mem_of_mem_take h)) (by omega) (by decide)
 refine ⟨h1,Int.lt_of_lt_of_le h2 ?_⟩
 have hk : 0 + (l.take j).length ≤ 18:=by rw [List.length_take]; omega
 have : (10 : Int) ^ (0 + (l.take j).length) ≤ 10 ^ 18:=by
  have:=Nat.pow_le_pow_right (n:=10) (by decide) hk
  exact_mod_cast this
 exact this
theorem digV_succ {l : List UInt8} (j : Nat) (h : j < l.length) : z10 (l.take (j + 1)) = 10 * z10 (l.take j) + ((l[j].toNat : Int) - 48):=by
 unfold z10
 rw [List.take_succ_eq_append_getElem h,List.foldl_append]; rfl
theorem z18 (pb tb : Nat) (L : List Tok) (stop : Int) (nx : Nat) (deep e bad : Int) (he : e ≠ 0) (w : World) (h : RP pb tb w L stop nx deep e bad) :
 Calls Tryz.prog 215 #[.pointer (some ⟨pb,0,none⟩)] w fun en w' => en = .returned (.int .i64 0) ∧ Same pb tb w w' L stop nx deep e bad:=by
 obtain ⟨a,cap,hb,_⟩:=h.blk
 have HQ:=Lib.hid (fun q => Same.drewN h q)
 have HF:=Lib.hid (fun q => z38 pb tb L stop nx deep e bad 170 he _ (Same.drewN h q).1)
 have x4:=Lib.cell_of_heap hb 4
 simp only [List.getElem?_toArray,List.getElem?_cons_zero,List.getElem?_cons_succ] at x4
 have q : (e == 0) = false:=by simpa using he
 have q' : (e != 0) = true:=by simpa using he
 clear hb h he
 go_enter Tryz.func215,Tryz.ntmps215
 go_wp2_with fail
 go_quiet (fail)
 go_wp2_with fail
 refine (HF.out _).mono ?_
 rintro en w1 ⟨rfl,rfl⟩
 go_wp2_with fail
 all_goals go_ret
 all_goals exact ⟨rfl,HQ.out _⟩
theorem z3d (pb tb : Nat) (L : List Tok) (stop : Int) (nx : Nat) (deep bad : Int) (w : World) (h : RP pb tb w L stop nx deep 0 bad) (hk : ∀ hl : nx < L.length,L[nx].kind ≠ 2) :
 Calls Tryz.prog 215 #[.pointer (some ⟨pb,0,none⟩)] w fun en w' => en = .returned (.int .i64 0) ∧ Same pb tb w w' L stop nx deep 170 (z05 (z01 L stop nx)):=by
 obtain ⟨a,cap,hb,hc⟩:=h.blk
 have HF:=Lib.hid (fun q => z2z pb tb L stop nx deep bad 170 _ (Same.drewN h q).1)
 have HQ:=Lib.hid (fun q => Same.drewN h q)
 have hle:=h.le
 have hlen:=h.len
 have x0:=Lib.cell_of_heap hb 0
 have x2:=Lib.cell_of_heap hb 2
 have x4:=Lib.cell_of_heap hb 4
 simp only [List.getElem?_toArray,List.getElem?_cons_zero,List.getElem?_cons_succ] at x0 x2 x4
 by_cases hlt : nx < L.length
 ·rcases hc with hc | ⟨rfl,hne,htb,htc⟩
  ·rw [hc] at hlt; exact absurd hlt (by simp)
  ·have hltI : ((nx : Nat) : Int) < ((L.length : Nat) : Int):=by omega
   have hltN : ¬ ((L.length : Nat) : Int) ≤ ((nx : Nat) : Int):=by omega
   obtain ⟨t0,t1,_⟩:=htc nx hlt
   rw [Nat.zero_add] at t0 t1
   have q1 : (L[nx].kind == 2) = false:=by simpa using hk hlt
   have q2 : (L[nx].kind != 2) = true:=by simpa using hk hlt
   clear hb h htc hk
   go_enter Tryz.func215,Tryz.ntmps215
   go_wp2_with fail
   go_quiet (fail)
   go_wp2_with fail
   refine (HF.out _).mono ?_
   rintro en w1 ⟨rfl,h1⟩
   have H1:=Lib.hid h1
   clear h1
   go_wp2_with fail
   all_goals go_ret
   all_goals exact ⟨rfl,RP.same (HQ.out _) H1.out⟩
 ·have hltI : ¬ ((nx : Nat) : Int) < ((L.length : Nat) : Int):=by omega
  have hltN : ((L.length : Nat) : Int) ≤ ((nx : Nat) : Int):=by omega
  clear hb h hc hk
  go_enter Tryz.func215,Tryz.ntmps215
  go_wp2_with fail
  go_quiet (fail)
  go_wp2_with fail
  refine (HF.out _).mono ?_
  rintro en w1 ⟨rfl,h1⟩
  have H1:=Lib.hid h1
  clear h1
  go_wp2_with fail
  all_goals go_ret
  all_goals exact ⟨rfl,RP.same (HQ.out _) H1.out⟩
theorem z3r (pb tb : Nat) (L : List Tok) (stop : Int) (nx : Nat) (deep bad : Int) (w : World) (h : RP pb tb w L stop nx deep 0 bad) (hlt : nx < L.length) (hk : L[nx].kind = 2) :
 Calls Tryz.prog 215 #[.pointer (some ⟨pb,0,none⟩)] w fun en w' => en = .returned (.int .i64 (z10 L[nx].text.data.toList)) ∧ Same pb tb w w' L stop (nx + 1) deep 0 bad:=by
 obtain ⟨a,cap,hb,hc⟩:=h.blk
 obtain ⟨_,hg⟩:=h.toks _ (List.getElem_mem hlt)
 obtain ⟨hne0,hl18,hdig⟩:=hg hk
 obtain ⟨s,hs⟩ : ∃ s,s = L[nx].text:=⟨_,rfl⟩
 rw [← hs] at hne0 hl18 hdig ⊢
 have HTK:=Lib.hid (digV_take hdig hl18)
 have HSC:=Lib.hid (fun j hj => digV_succ (l:=s.data.toList) j hj)
 have HDG:=Lib.hid hdig
 have HQ:=Lib.hid (fun q => Same.drewN h q)
 have hlen:=h.len
 have x0:=Lib.cell_of_heap hb 0
 have x2:=Lib.cell_of_heap hb 2
 have x4:=Lib.cell_of_heap hb 4
 have f2:=Lib.frozen_of_heap hb 2
 simp only [List.getElem?_toArray,List.getElem?_cons_zero,List.getElem?_cons_succ] at x0 x2 x4
 rcases hc with hc | ⟨rfl,hne,htb,htc⟩
 ·rw [hc] at hlt; exact absurd hlt (by simp)
 ·have hltI : ((nx : Nat) : Int) < ((L.length : Nat) : Int):=by omega
  have hltN : ¬ ((L.length : Nat) : Int) ≤ ((nx : Nat) : Int):=by omega
  obtain ⟨t0,t1,_⟩:=htc nx hlt
  rw [Nat.zero_add] at t0 t1
  have q1 : (L[nx].kind == 2) = true:=by simpa using hk
  have q2 : (L[nx].kind != 2) = false:=by simpa using hk
  have HSZ:=Lib.hid (z1j s)
  have HGT:=Lib.hid (z2k s)
  have hsz : s.size ≤ 18:=by rw [← z1j]; exact hl18
  rw [← hs] at t1
  clear hs
  have HOUT : Hid (∀ q,Same pb tb w ((w.drewN q).setCell ⟨pb,2,none⟩ (.int .i64 ((nx : Int) + 1))) L stop (nx + 1) deep 0 bad):=fun q => by
   have hs:=HQ.out q
   exact ⟨hs.1.set (z2u (Bt.refl _ _) _ _) (by omega) (fun a cap hk => by have:=z5x hk 2 (.int .i64 ((nx : Int) + 1)); push_cast; exact this),z2u hs.2 _ _⟩
  clear hb h htc hk hdig hne0 hl18 hg
  go_enter Tryz.func215,Tryz.ntmps215
  go_wp2_with fail
  go_quiet (fail)
  go_wp2_with fail
  go_quiet (fail)
  go_wp2_with fail
  go_loop [3,5] (fun q i => ∃ j : Nat,j ≤ s.size ∧ i = .int .i64 j ∧ q = .int .i64 (z10 (s.data.toList.take j))) (fun _ i => s.size - (intOf i).toNat)
  case atStart => exact ⟨0,Nat.zero_le _,rfl,rfl⟩
  case round =>
   obtain ⟨j,hj,rfl,rfl⟩:=hrel
   by_cases hjl : j < s.size
   ·have hgt:=HGT.out j hjl
    generalize hck : s[j]'hjl = c at hgt
    have hcm : c ∈ s.data.toList:=by rw [hgt]; exact List.getElem_mem _
    obtain ⟨c1,c2⟩:=HDG.out c hcm
    have d1 : 48 ≤ c.toNat:=by simpa [UInt8.le_iff_toNat_le] using c1
    have d2 : c.toNat ≤ 57:=by simpa [UInt8.le_iff_toNat_le] using c2
    have hst:=HSC.out j (by rw [HSZ.out]; exact hjl)
    rw [← hgt] at hst
    obtain ⟨b1,b2⟩:=HTK.out j
    obtain ⟨b3,b4⟩:=HTK.out (j + 1)
    have HST:=Lib.hid hst
    rw [hst] at b3 b4
    have hw8 : IntKind.u8.wrap ((c.toNat : Int) - 48) = (c.toNat : Int) - 48:=by
     simp [IntKind.wrap,IntKind.bits]; omega
    generalize z10 (s.data.toList.take j) = z at b1 b2 b3 b4 HST
    clear hgt hcm c1 c2 hst
    go_wp2_with fail
    go_round
    case rel => exact ⟨j + 1,by omega,by go_num,by rw [HST.out]⟩
    case measure => simp [intOf]; omega
   ·have hje : j = s.size:=by omega
    have HE : Hid (z10 (s.data.toList.take s.size) = z10 s.data.toList):=by rw [Hid,← HSZ.out,List.take_length]
    subst hje
    go_wp2_with fail
    all_goals go_ret
    all_goals exact ⟨z2q (by rw [HE.out]),HOUT.out _⟩
end Go.Proofs.YtpgdplmndnopbaaGreatDoor
namespace Go.Proofs.YtpgdplmndnopbaaGreatDoor
open Go.RowKit
theorem isT_cons (s : List UInt8) (k : Int) (t : ByteArray) (pl : Int) (r : List Tok) : isT s (⟨k,t,pl⟩ :: r) = (k != 2 && t.data.toList == s):=rfl
theorem z3l (pb tb deep : Nat) (l : List Tok) (s : ByteArray) (w : World) (h : Ps pb tb w l deep) :
 Calls Tryz.prog 166 #[.pointer (some ⟨pb,0,none⟩),.string s] w fun e w' => e = .returned (.bool (isT s.data.toList l)) ∧ Below w.heap.size w w':=by
 obtain ⟨⟨k,t,pl⟩,r,rfl⟩:=h.ends.cons
 rw [isT_cons]
 have HN:=Lib.hid (z3h pb tb deep k t pl r w h)
 have HN2 : Hid (∀ W,Below w.heap.size w W → Calls Tryz.prog 94 #[.pointer (some ⟨pb,0,none⟩)] W fun e w' => e = .returned (.agg #[.int .u8 k,.string t,.int .i64 pl]) ∧ Below W.heap.size W w') :=
  fun W hb => z3h pb tb deep k t pl r W (h.below hb)
 have hf0:=fun W => (fld51 (.int .u8 k) (.string t) (.int .i64 pl) W).1
 have hf1:=fun W => (fld51 (.int .u8 k) (.string t) (.int .i64 pl) W).2.1
 have HE : Hid ((t.toList == s.toList) = (t.data.toList == s.data.toList)):=by rw [Hid,ByteArray.toList_eq,ByteArray.toList_eq]
 clear h
 cases q : k != 2 with
 | false =>
  go_enter Tryz.func166,Tryz.ntmps166
  go_wp2_with fail
  refine HN.out.mono ?_
  rintro e w1 ⟨rfl,hb⟩
  have HB:=Lib.hid hb
  clear hb
  go_wp2_with fail
  all_goals go_ret
  all_goals exact ⟨rfl,HB.out⟩
 | true =>
  go_enter Tryz.func166,Tryz.ntmps166
  go_wp2_with fail
  refine HN.out.mono ?_
  rintro e w1 ⟨rfl,hb⟩
  have HB:=Lib.hid hb
  clear hb
  go_wp2_with fail
  refine (HN2.out _ HB.out).mono ?_
  rintro e w2 ⟨rfl,hb⟩
  have HB2:=Lib.hid (HB.out.trans (hb.mono HB.out.size))
  clear hb
  go_wp2_with fail
  all_goals go_ret
  all_goals exact ⟨z00 (by rw [HE.out]; rfl),HB2.out⟩
theorem Ps.tail_ends {pb tb deep : Nat} {w : World} {k : Int} {t : ByteArray} {pl : Int} {r : List Tok} (h : Ps pb tb w (⟨k,t,pl⟩ :: r) deep) {s : List UInt8} (hs : s ≠ []) (hi : isT s (⟨k,t,pl⟩ :: r) = true) : Ends r:=by
 rw [isT_cons,Bool.and_eq_true,beq_iff_eq] at hi
 exact h.ends.tail (.inr (by rw [hi.2]; exact hs))
theorem z1s (pb tb deep : Nat) (l : List Tok) (s : ByteArray) (hs : s.data.toList ≠ []) (w : World) (h : Ps pb tb w l deep) :
 Calls Tryz.prog 139 #[.pointer (some ⟨pb,0,none⟩),.string s] w fun e w' => e = .returned (.bool (isT s.data.toList l)) ∧ Ps pb tb w' (if isT s.data.toList l then l.tail else l) deep ∧ Bt pb w w':=by
 obtain ⟨⟨k,t,pl⟩,r,rfl⟩:=h.ends.cons
 have HI:=Lib.hid (z3l pb tb deep _ s w h)
 have HP:=Lib.hid (fun (W : World) (hb : Below w.heap.size w W) (hi : isT s.data.toList (⟨k,t,pl⟩ :: r) = true) => z3k pb tb deep k t pl r W (h.below hb) (h.tail_ends hs hi))
 have HH:=Lib.hid h
 clear h
 cases q : isT s.data.toList (⟨k,t,pl⟩ :: r) with
 | false =>
  rw [q] at HI
  simp only [Bool.false_eq_true,if_false]
  clear HP q
  go_enter Tryz.func139,Tryz.ntmps139
  go_wp2_with fail
  refine HI.out.mono ?_
  rintro e w1 ⟨rfl,hb⟩
  have HB:=Lib.hid hb
  clear hb
  go_wp2_with fail
  all_goals go_ret
  all_goals exact ⟨rfl,HH.out.below HB.out,.of_below HB.out⟩
 | true =>
  rw [q] at HI
  simp only [if_true,List.tail_cons]
  have HQ:=Lib.hid q
  clear q
  go_enter Tryz.func139,Tryz.ntmps139
  go_wp2_with fail
  refine HI.out.mono ?_
  rintro e w1 ⟨rfl,hb⟩
  have HB:=Lib.hid hb
  clear hb
  go_wp2_with fail
  refine (HP.out _ HB.out HQ.out).mono ?_
  rintro e w2 ⟨rfl,hp,hb⟩
  have HP2:=Lib.hid hp
  have HB2:=Lib.hid ((Bt.of_below (pb:=pb) HB.out).trans hb)
  clear hp hb
  go_wp2_with fail
  all_goals go_ret
  all_goals exact ⟨rfl,HP2.out,HB2.out⟩
theorem z1z (pb tb deep g : Nat) (l : List Tok) (s : ByteArray) (hs : s.data.toList ≠ []) (w : World) (h : Ps pb tb w l deep) (hg : w.heap[g]? = some (.cells #[.string s] 9 (0,0))) (hi : isT s.data.toList l = true) :
 Calls Tryz.prog 169 #[.pointer (some ⟨pb,0,none⟩),.slice (some ⟨g,0,none⟩) 1 1] w fun e w' => e = .returned (.tuple #[]) ∧ Ps pb tb w' l.tail deep ∧ Bt pb w w':=by
 have HM:=Lib.hid (z1s pb tb deep l s hs w h)
 rw [hi] at HM
 simp only [if_true] at HM
 have c0 : w.cell? ⟨g,0,none⟩ = some (.string s):=by rw [Lib.cell_of_heap hg]; rfl
 clear h hg hi
 go_enter Tryz.func169,Tryz.ntmps169
 go_wp2_with fail
 go_loopw [8] (fun i wr => (i = .int .i64 0 ∧ wr = w) ∨ (i = .int .i64 1 ∧ Hid (Ps pb tb wr l.tail deep ∧ Bt pb w wr))) (fun i _ => 1 - (intOf i).toNat)
 case atStart => exact .inl ⟨rfl,rfl⟩
 case round =>
  rcases hrel with ⟨rfl,rfl⟩ | ⟨rfl,HX⟩
  ·go_wp2_with fail
   refine HM.out.mono ?_
   rintro e w1 ⟨rfl,hp⟩
   have HP:=Lib.hid hp
   clear hp
   go_wp2_with fail
   go_roundw
   case rel => exact .inr ⟨by go_num,HP⟩
   case measure => simp [intOf]
  ·go_wp2_with fail
   all_goals go_end0
   all_goals exact ⟨rfl,HX.out⟩
theorem z23 (pb tb deep g : Nat) (l : List Tok) (s : ByteArray) (hs : s.data.toList ≠ []) (w : World) (h : Ps pb tb w l deep) (hg : w.heap[g]? = some (.cells #[.string s] 9 (0,0))) (hi : isT s.data.toList l = false) :
 Calls Tryz.prog 169 #[.pointer (some ⟨pb,0,none⟩),.slice (some ⟨g,0,none⟩) 1 1] w fun e w' => e = .panicked (thr 170 (z05 l)) ∧ Bt pb w w':=by
 have HM:=Lib.hid (z1s pb tb deep l s hs w h)
 rw [hi] at HM
 simp only [Bool.false_eq_true,if_false] at HM
 have c0 : w.cell? ⟨g,0,none⟩ = some (.string s):=by rw [Lib.cell_of_heap hg]; rfl
 obtain ⟨⟨k,t,pl⟩,r,rfl⟩:=h.ends.cons
 have HF:=Lib.hid (fun (W : World) (hp : Ps pb tb W (⟨k,t,pl⟩ :: r) deep) => z3j pb tb deep 170 k t pl r W hp)
 clear h hg hi
 go_enter Tryz.func169,Tryz.ntmps169
 go_wp2_with fail
 go_loopw [8] (fun i wr => i = .int .i64 0 ∧ wr = w) (fun i _ => 1 - (intOf i).toNat)
 case atStart => exact ⟨rfl,rfl⟩
 case round =>
  obtain ⟨rfl,rfl⟩:=hrel
  go_wp2_with fail
  refine HM.out.mono ?_
  rintro e w1 ⟨rfl,hp,hb⟩
  have HP:=Lib.hid hp
  have HB:=Lib.hid hb
  clear hp hb
  go_wp2_with fail
  refine (HF.out _ HP.out).mono ?_
  rintro e w2 ⟨rfl,hb⟩
  have HB2:=Lib.hid (HB.out.trans (.of_below hb))
  clear hb
  go_wp2_with fail
  exact ⟨rfl,rfl,HB2.out⟩
end Go.Proofs.YtpgdplmndnopbaaGreatDoor
namespace Go.Proofs
open Go.Shelf
def Tryz.lays172_ren : Go.Shelf.Ren:=⟨fun | 172 => 198 | 244 => 214 | 245 => 174 | 247 => 219 | 279 => 188 | 280 => 189 | 281 => 190 | 282 => 191 | 287 => 173 | 316 => 206 | 171 => 127 | 205 => 207 | 321 => 186 | 322 => 187 | 243 => 163 | 246 => 178 | 283 => 192 | 284 => 193 | 285 => 194 | 286 => 195 | 129 => 209 | 317 => 208 | 318 => 210 | 319 => 211 | 320 => 212 | 337 => 217 | 338 => 218 | n => n,fun | 9 => 9 | 3 => 3 | 75 => 147 | 76 => 148 | 4 => 4 | 5 => 5 | 167 => 185 | 37 => 65 | 0 => 0 | 85 => 212 | 2 => 2 | 168 => 187 | 53 => 160 | 175 => 161 | 46 => 167 | 210 => 199 | 127 => 114 | 145 => 210 | 143 => 208 | 21 => 21 | 171 => 190 | 173 => 193 | 212 => 202 | 51 => 203 | 20 => 20 | 213 => 204 | 232 => 214 | 233 => 215 | 80 => 71 | n => n,fun | 15 => 1 | 16 => 2 | 17 => 3 | 18 => 4 | 19 => 5 | n => n⟩
theorem Tryz.lays172 : Go.Proofs.Lays.n172 Tryz.prog Tryz.lays172_ren:={
 mixed:=by kernel_rfl
 f129:=Tryz.func209.trans (congrArg some (by kernel_rfl))
 f171:=Tryz.func127.trans (congrArg some (by kernel_rfl))
 f172:=Tryz.func198.trans (congrArg some (by kernel_rfl))
 f205:=Tryz.func207.trans (congrArg some (by kernel_rfl))
 f243:=Tryz.func163.trans (congrArg some (by kernel_rfl))
 f244:=Tryz.func214.trans (congrArg some (by kernel_rfl))
 f245:=Tryz.func174.trans (congrArg some (by kernel_rfl))
 f246:=Tryz.func178.trans (congrArg some (by kernel_rfl))
 f247:=Tryz.func219.trans (congrArg some (by kernel_rfl))
 f279:=Tryz.func188.trans (congrArg some (by kernel_rfl))
 f280:=Tryz.func189.trans (congrArg some (by kernel_rfl))
 f281:=Tryz.func190.trans (congrArg some (by kernel_rfl))
 f282:=Tryz.func191.trans (congrArg some (by kernel_rfl))
 f283:=Tryz.func192.trans (congrArg some (by kernel_rfl))
 f284:=Tryz.func193.trans (congrArg some (by kernel_rfl))
 f285:=Tryz.func194.trans (congrArg some (by kernel_rfl))
 f286:=Tryz.func195.trans (congrArg some (by kernel_rfl))
 f287:=Tryz.func173.trans (congrArg some (by kernel_rfl))
 f316:=Tryz.func206.trans (congrArg some (by kernel_rfl))
 f317:=Tryz.func208.trans (congrArg some (by kernel_rfl))
 f318:=Tryz.func210.trans (congrArg some (by kernel_rfl))
 f319:=Tryz.func211.trans (congrArg some (by kernel_rfl))
 f320:=Tryz.func212.trans (congrArg some (by kernel_rfl))
 f321:=Tryz.func186.trans (congrArg some (by kernel_rfl))
 f322:=Tryz.func187.trans (congrArg some (by kernel_rfl))
 f337:=Tryz.func217.trans (congrArg some (by kernel_rfl))
 f338:=Tryz.func218.trans (congrArg some (by kernel_rfl))
 t0:=Tryz.underlying0
 a0:=Tryz.isAgg0
 z0:=Tryz.sizeOf0
 v0:=Tryz.zeroValue0
 t2:=Tryz.underlying2
 a2:=Tryz.isAgg2
 z2:=Tryz.sizeOf2
 v2:=Tryz.zeroValue2
 t3:=Tryz.underlying3
 a3:=Tryz.isAgg3
 z3:=Tryz.sizeOf3
 v3:=Tryz.zeroValue3
 t4:=Tryz.underlying4
 a4:=Tryz.isAgg4
 z4:=Tryz.sizeOf4
 v4:=Tryz.zeroValue4
 t5:=Tryz.underlying5
 a5:=Tryz.isAgg5
 z5:=Tryz.sizeOf5
 v5:=Tryz.zeroValue5
 t9:=Tryz.underlying9
 a9:=Tryz.isAgg9
 z9:=Tryz.sizeOf9
 v9:=Tryz.zeroValue9
 t20:=Tryz.underlying20
 a20:=Tryz.isAgg20
 z20:=Tryz.sizeOf20
 v20:=Tryz.zeroValue20
 t21:=Tryz.underlying21
 a21:=Tryz.isAgg21
 z21:=Tryz.sizeOf21
 v21:=Tryz.zeroValue21
 t37:=Tryz.underlying65
 a37:=Tryz.isAgg65
 z37:=Tryz.sizeOf65
 v37:=Tryz.zeroValue65
 t46:=Tryz.underlying167
 a46:=Tryz.isAgg167
 z46:=Tryz.sizeOf167
 v46:=Tryz.zeroValue167
 t51:=Tryz.underlying203
 a51:=Tryz.isAgg203
 z51:=Tryz.sizeOf203
 v51:=Tryz.zeroValue203
 t53:=Tryz.underlying160
 a53:=Tryz.isAgg160
 z53:=Tryz.sizeOf160
 v53:=Tryz.zeroValue160
 t75:=Tryz.underlying147
 a75:=Tryz.isAgg147
 z75:=Tryz.sizeOf147
 v75:=Tryz.zeroValue147
 t76:=Tryz.underlying148
 a76:=Tryz.isAgg148
 z76:=Tryz.sizeOf148
 v76:=Tryz.zeroValue148
 t85:=Tryz.underlying212
 a85:=Tryz.isAgg212
 z85:=Tryz.sizeOf212
 v85:=Tryz.zeroValue212
 t127:=Tryz.underlying114
 a127:=Tryz.isAgg114
 z127:=Tryz.sizeOf114
 v127:=Tryz.zeroValue114
 t143:=Tryz.underlying208
 a143:=Tryz.isAgg208
 z143:=Tryz.sizeOf208
 v143:=Tryz.zeroValue208
 t145:=Tryz.underlying210
 a145:=Tryz.isAgg210
 z145:=Tryz.sizeOf210
 v145:=Tryz.zeroValue210
 t167:=Tryz.underlying185
 a167:=Tryz.isAgg185
 z167:=Tryz.sizeOf185
 v167:=Tryz.zeroValue185
 t168:=Tryz.underlying187
 a168:=Tryz.isAgg187
 z168:=Tryz.sizeOf187
 v168:=Tryz.zeroValue187
 t171:=Tryz.underlying190
 a171:=Tryz.isAgg190
 z171:=Tryz.sizeOf190
 v171:=Tryz.zeroValue190
 t173:=Tryz.underlying193
 a173:=Tryz.isAgg193
 z173:=Tryz.sizeOf193
 v173:=Tryz.zeroValue193
 t175:=Tryz.underlying161
 a175:=Tryz.isAgg161
 z175:=Tryz.sizeOf161
 v175:=Tryz.zeroValue161
 t210:=Tryz.underlying199
 a210:=Tryz.isAgg199
 z210:=Tryz.sizeOf199
 v210:=Tryz.zeroValue199
 t212:=Tryz.underlying202
 a212:=Tryz.isAgg202
 z212:=Tryz.sizeOf202
 v212:=Tryz.zeroValue202
 t213:=Tryz.underlying204
 a213:=Tryz.isAgg204
 z213:=Tryz.sizeOf204
 t232:=Tryz.underlying214
 a232:=Tryz.isAgg214
 z232:=Tryz.sizeOf214
 v232:=Tryz.zeroValue214
 t233:=Tryz.underlying215
 a233:=Tryz.isAgg215
 z233:=Tryz.sizeOf215
 v233:=Tryz.zeroValue215
 g15:=by kernel_rfl
 g16:=by kernel_rfl
 g17:=by kernel_rfl
 g18:=by kernel_rfl
 g19:=by kernel_rfl }
end Go.Proofs
namespace Go.Proofs.YtpgdplmndnopbaaGreatDoor
open Go.RowKit
theorem digit_val {c : UInt8} (h : 48 ≤ c ∧ c ≤ 57) : Lib.digitVal c = some (c.toNat - 48):=by
 have h1:=UInt8.le_iff_toNat_le.1 h.1
 have h2:=UInt8.le_iff_toNat_le.1 h.2
 unfold Lib.digitVal
 rw [if_pos ⟨h1,h2⟩]
theorem dec_digits : ∀ (l : List UInt8) (acc : Nat),(∀ c ∈ l,48 ≤ c ∧ c ≤ 57) → ∃ m : Nat,Lib.decFrom acc l = some m ∧ (m : Int) = l.foldl (fun n c => 10 * n + ((c.toNat : Int) - 48)) (acc : Int)
 | [],acc,_ => ⟨acc,rfl,rfl⟩
 | c :: r,acc,h => by
  have hc:=h c (by simp)
  obtain ⟨m,h1,h2⟩:=dec_digits r (acc * 10 + (c.toNat - 48)) fun x hx => h x (by simp [hx])
  refine ⟨m,?_,?_⟩
  ·unfold Lib.decFrom
   rw [digit_val hc]
   exact h1
  ·rw [h2,List.foldl_cons]
   congr 1
   have:=UInt8.le_iff_toNat_le.1 hc.1
   simp at this
   omega
theorem atoi_digits {l : List UInt8} (h0 : l ≠ []) (h : ∀ c ∈ l,48 ≤ c ∧ c ≤ 57) : Lib.atoi l = some (z10 l):=by
 obtain ⟨m,h1,h2⟩:=dec_digits l 0 h
 match l,h0 with
 | c :: r,_ =>
  have hc:=h c (by simp)
  have e1:=UInt8.le_iff_toNat_le.1 hc.1
  have n45 : (c == 45) = false:=by
   rw [beq_eq_false_iff_ne]; rintro rfl; exact absurd e1 (by decide)
  have n43 : (c == 43) = false:=by
   rw [beq_eq_false_iff_ne]; rintro rfl; exact absurd e1 (by decide)
  simp only [Lib.atoi,n45,n43,Bool.false_eq_true,if_false]
  have hd : Lib.decNat (c :: r) = some m:=by
   unfold Lib.decNat
   first | exact h1 | simpa using h1
  rw [hd]
  show some (m : Int) = some (z10 (c :: r))
  rw [h2]; rfl
theorem z64 (w : World) (e : TypeId) (t : ByteArray) : Below w.heap.size w (Lib.bytesWorld w e t):=by
 unfold Lib.bytesWorld
 exact Lib.below_freeze ((Below.drew (Below.refl _ w)).alloc (Nat.le_refl _) _) (p:=⟨w.heap.size,_,none⟩) (Nat.le_refl _) _
theorem atoi198_any (s : ByteArray) (h0 : s.data.toList ≠ []) (hl : s.data.toList.length ≤ 18) (h : ∀ c ∈ s.data.toList,48 ≤ c ∧ c ≤ 57) (w : World) :
 Calls Tryz.prog 198 #[.string s] w fun e w' => e = .returned (.tuple #[.int .i64 (z10 s.data.toList),.nilIface]) ∧ Below w.heap.size w w':=by
 refine (Any.strconv_Atoi Tryz.lays172 s _ (by simpa using hl) (atoi_digits h0 h) w).mono ?_
 rintro e w' ⟨rfl,t,rfl⟩
 exact ⟨rfl,z64 _ _ _⟩
theorem z3s (pb tb deep : Nat) (s : ByteArray) (pl : Int) (r : List Tok) (w : World) (h : Ps pb tb w (⟨2,s,pl⟩ :: r) deep) :
 Calls Tryz.prog 180 #[.pointer (some ⟨pb,0,none⟩)] w fun e w' => e = .returned (.int .i64 (z10 s.data.toList)) ∧ Ps pb tb w' r deep ∧ Bt pb w w':=by
 obtain ⟨_,h2⟩:=h.toks _ (List.mem_cons_self ..)
 obtain ⟨g1,g2,g3⟩:=h2 rfl
 have HA:=Lib.hid (fun W => atoi198_any s g1 g2 g3 W)
 have HN:=Lib.hid (z3h pb tb deep 2 s pl r w h)
 have HP:=Lib.hid (fun (W : World) (hb : Below w.heap.size w W) => z3k pb tb deep 2 s pl r W (h.below hb) (h.ends.tail (.inl (show (2 : Int) ≠ 0 by decide))))
 have hf0:=fun W => (fld51 (.int .u8 2) (.string s) (.int .i64 pl) W).1
 have hf1:=fun W => (fld51 (.int .u8 2) (.string s) (.int .i64 pl) W).2.1
 clear h h2 g1 g2 g3
 generalize z10 s.data.toList = D at HA ⊢
 go_enter Tryz.func180,Tryz.ntmps180
 go_wp2_with fail
 refine HN.out.mono ?_
 rintro e w1 ⟨rfl,hb⟩
 have HB:=Lib.hid hb
 clear hb
 go_wp2_with fail
 refine (HP.out _ HB.out).mono ?_
 rintro e w2 ⟨rfl,hp,hb⟩
 have HX:=Lib.hid hp
 have HB2:=Lib.hid ((Bt.of_below (pb:=pb) HB.out).trans hb)
 clear hp hb
 go_wp2_with fail
 refine (HA.out _).mono ?_
 rintro e w3 ⟨rfl,hb⟩
 have HX3:=Lib.hid (HX.out.below hb)
 have HB3:=Lib.hid (HB2.out.trans (.of_below hb))
 clear hb
 go_wp2_with fail
 all_goals go_ret
 all_goals exact ⟨rfl,HX3.out,HB3.out⟩
theorem z3t (pb tb deep : Nat) (k : Int) (s : ByteArray) (pl : Int) (r : List Tok) (w : World) (h : Ps pb tb w (⟨k,s,pl⟩ :: r) deep) (hk : k ≠ 2) :
 Calls Tryz.prog 180 #[.pointer (some ⟨pb,0,none⟩)] w fun e w' => e = .panicked (thr 170 pl) ∧ Bt pb w w':=by
 have HN:=Lib.hid (z3h pb tb deep k s pl r w h)
 have HF:=Lib.hid (fun (W : World) (hb : Below w.heap.size w W) => z3j pb tb deep 170 k s pl r W (h.below hb))
 have hf0:=fun W => (fld51 (.int .u8 k) (.string s) (.int .i64 pl) W).1
 have q : (k != 2) = true:=by simpa using hk
 clear h hk
 go_enter Tryz.func180,Tryz.ntmps180
 go_wp2_with fail
 refine HN.out.mono ?_
 rintro e w1 ⟨rfl,hb⟩
 have HB:=Lib.hid hb
 clear hb
 go_wp2_with fail
 refine (HF.out _ HB.out).mono ?_
 rintro e w2 ⟨rfl,hb⟩
 have HB2:=Lib.hid ((Bt.of_below (pb:=pb) HB.out).trans (.of_below hb))
 clear hb
 go_wp2_with fail
 exact ⟨rfl,rfl,HB2.out⟩
end Go.Proofs.YtpgdplmndnopbaaGreatDoor
namespace Go.Proofs.YtpgdplmndnopbaaGreatDoor
open Go.RowKit
theorem two184_any (kind : Int) (w : World) :
 Calls Tryz.prog 184 #[.int .u8 kind] w fun e w' => e = .returned (.func (.func 200) #[] #[.pointer (some ⟨w.heap.size,0,none⟩)]) ∧ w' = w.alloc (.cells #[.int .u8 kind] 5):=by
 have hmf : ∀ (fn : Fn) (first cap : Array Value) (w : World),(Instr.makeFunc fn first cap).run Tryz.prog w = .ok (.func fn first cap) w:=fun _ _ _ _ => rfl
 go_enter Tryz.func184,Tryz.ntmps184
 go_wp2_with fail
 all_goals go_ret
 all_goals exact ⟨rfl,rfl⟩
theorem z5p (kind : Int) (w : World) :
 Calls Tryz.prog 92 #[.int .u8 kind] w fun e w' => e = .returned (.func (.func 141) #[] #[.pointer (some ⟨w.heap.size,0,none⟩)]) ∧ w' = w.alloc (.cells #[.int .u8 kind] 5):=by
 have hmf : ∀ (fn : Fn) (first cap : Array Value) (w : World),(Instr.makeFunc fn first cap).run Tryz.prog w = .ok (.func fn first cap) w:=fun _ _ _ _ => rfl
 go_enter Tryz.func92,Tryz.ntmps92
 go_wp2_with fail
 all_goals go_ret
 all_goals exact ⟨rfl,rfl⟩
theorem two200_any (kc : Nat) (kind k1 k2 : Int) (s1 s2 : ByteArray) (a1 a2 : Option Addr) (l1 c1 l2 c2 : Nat) (w : World) (hk : w.heap[kc]? = some (.cells #[.int .u8 kind] 5 (0,0))) :
 Calls Tryz.prog 200 #[.agg #[.int .u8 k1,.string s1,.slice a1 l1 c1],.agg #[.int .u8 k2,.string s2,.slice a2 l2 c2],.pointer (some ⟨kc,0,none⟩)] w fun e w' =>
  e = .returned (.agg #[.int .u8 kind,.string ⟨#[]⟩,.slice (some ⟨w.heap.size + 3,0,none⟩) 2 2]) ∧ Below w.heap.size w w' ∧ w'.heap[w.heap.size + 3]? = some (.cells #[.int .u8 k1,.string s1,.slice a1 l1 c1,.int .u8 k2,.string s2,.slice a2 l2 c2] 61 (0,0)):=by
 have c0 : w.cell? ⟨kc,0,none⟩ = some (.int .u8 kind):=by rw [Lib.cell_of_heap hk]; rfl
 have c3 : ∀ o1 o2 o3,(((w.alloc o1).alloc o2).alloc o3).cell? ⟨kc,0,none⟩ = some (.int .u8 kind):=fun o1 o2 o3 => by
  rw [Lib.cell_of_heap (z0d (z0d (z0d hk)))]; rfl
 have HB : Hid (∀ o1 o2 o3 o4,Below w.heap.size w ((((w.alloc o1).alloc o2).alloc o3).alloc o4)):=by
  intro o1 o2 o3 o4
  exact ((((Below.refl _ w).alloc (Nat.le_refl _) _).alloc (by simp) _).alloc (by simp; omega) _).alloc (by simp; omega) _
 have HQ : Hid (∀ o1 o2 o3 o4,((((w.alloc o1).alloc o2).alloc o3).alloc o4).heap[w.heap.size + 2]? = some o3 ∧ ((((w.alloc o1).alloc o2).alloc o3).alloc o4).heap[w.heap.size + 3]? = some o4) :=
  fun o1 o2 o3 o4 => ⟨z0d (z06 (by simp)),z06 (by simp)⟩
 clear hk
 go_enter Tryz.func200,Tryz.ntmps200
 go_wp2_with fail
 refine And.intro rfl (Exists.intro _ (And.intro (results_cell_row rfl _ _ _ _ _ _ _ rfl (HQ.out _ _ _ _).1 Tryz.underlying61 rfl (by kernel_rfl)) ?_))
 exact ⟨rfl,HB.out _ _ _ _,(HQ.out _ _ _ _).2⟩
theorem z6u (kc : Nat) (kind : Int) (k1 k2 lo1 hi1 lo2 hi2 : Int) (ls1 hs1 op1 ls2 hs2 op2 : Bool) (a1 a2 b1 b2 : Option Addr) (l1 c1 l2 c2 m1 d1 m2 d2 : Nat) (w : World) (hk : w.heap[kc]? = some (.cells #[.int .u8 kind] 5 (0,0))) :
 Calls Tryz.prog 141 #[.agg #[.int .u8 k1,.slice a1 l1 c1,.slice b1 m1 d1,.int .i64 lo1,.bool ls1,.int .i64 hi1,.bool hs1,.bool op1],.agg #[.int .u8 k2,.slice a2 l2 c2,.slice b2 m2 d2,.int .i64 lo2,.bool ls2,.int .i64 hi2,.bool hs2,.bool op2],.pointer (some ⟨kc,0,none⟩)] w fun e w' =>
  e = .returned (.agg #[.int .u8 kind,.slice none 0 0,.slice (some ⟨w.heap.size + 3,0,none⟩) 2 2,.int .i64 0,.bool false,.int .i64 0,.bool false,.bool false]) ∧ Below w.heap.size w w' ∧
  w'.heap[w.heap.size + 3]? = some (.cells #[.int .u8 k1,.slice a1 l1 c1,.slice b1 m1 d1,.int .i64 lo1,.bool ls1,.int .i64 hi1,.bool hs1,.bool op1,.int .u8 k2,.slice a2 l2 c2,.slice b2 m2 d2,.int .i64 lo2,.bool ls2,.int .i64 hi2,.bool hs2,.bool op2] 28 (0,0)):=by
 have c0 : w.cell? ⟨kc,0,none⟩ = some (.int .u8 kind):=by rw [Lib.cell_of_heap hk]; rfl
 have c3 : ∀ o1 o2 o3,(((w.alloc o1).alloc o2).alloc o3).cell? ⟨kc,0,none⟩ = some (.int .u8 kind):=fun o1 o2 o3 => by
  rw [Lib.cell_of_heap (z0d (z0d (z0d hk)))]; rfl
 have HB : Hid (∀ o1 o2 o3 o4,Below w.heap.size w ((((w.alloc o1).alloc o2).alloc o3).alloc o4)):=by
  intro o1 o2 o3 o4
  exact ((((Below.refl _ w).alloc (Nat.le_refl _) _).alloc (by simp) _).alloc (by simp; omega) _).alloc (by simp; omega) _
 have HQ : Hid (∀ o1 o2 o3 o4,((((w.alloc o1).alloc o2).alloc o3).alloc o4).heap[w.heap.size + 2]? = some o3 ∧ ((((w.alloc o1).alloc o2).alloc o3).alloc o4).heap[w.heap.size + 3]? = some o4) :=
  fun o1 o2 o3 o4 => ⟨z0d (z06 (by simp)),z06 (by simp)⟩
 clear hk
 go_enter Tryz.func141,Tryz.ntmps141
 go_wp2_with fail
 refine And.intro rfl (Exists.intro _ (And.intro (results_cell_row rfl _ _ _ _ _ _ _ rfl (HQ.out _ _ _ _).1 Tryz.underlying28 rfl (by kernel_rfl)) ?_))
 exact ⟨rfl,HB.out _ _ _ _,(HQ.out _ _ _ _).2⟩
end Go.Proofs.YtpgdplmndnopbaaGreatDoor
namespace Go.Proofs.YtpgdplmndnopbaaGreatDoor
theorem digVal_snoc' (l : List UInt8) (c : UInt8) : ∀ a,z1l a (l ++ [c]) = 10 * z1l a l + (c.toNat - 48):=by
 induction l with
 | nil => intro a; rfl
 | cons b r ih => intro a; rw [List.cons_append,z17,z17,ih]
theorem digVal_ge (l : List UInt8) : ∀ a,a ≤ z1l a l:=by
 induction l with
 | nil => intro a; exact Nat.le_refl _
 | cons b r ih =>
  intro a
  rw [z17]
  have:=ih (10 * a + (b.toNat - 48))
  omega
theorem parse_ok (M : Nat) (l : List UInt8) : ∀ a n,Lib.parseUintM M a l = .ok n → l.all z2d = true ∧ n = z1l a l:=by
 induction l with
 | nil => intro a n h; simp only [Lib.parseUintM,Lib.NumEnd.ok.injEq] at h; exact ⟨rfl,h.symm⟩
 | cons b r ih =>
  intro a n h
  simp only [Lib.parseUintM] at h
  split at h
  ·rename_i hd
   split at h
   ·cases h
   ·split at h
    ·cases h
    ·obtain ⟨h1,h2⟩:=ih _ _ h
     refine ⟨?_,?_⟩
     ·simp only [List.all_cons,h1,z2d,hd.1,hd.2]; rfl
     ·rw [h2,z17]; congr 1; omega
  ·cases h
theorem parse_small (l : List UInt8) : ∀ a,l.all z2d = true → z1l a l < 288230376151711744 → Lib.parseUintM 4611686018427387903 a l = .ok (z1l a l):=by
 induction l with
 | nil => intro a _ _; rfl
 | cons b r ih =>
  intro a h hv
  simp only [List.all_cons,Bool.and_eq_true] at h
  have hd:=h.1
  simp only [z2d,Bool.and_eq_true,decide_eq_true_eq] at hd
  rw [z17] at hv ⊢
  have h1:=digVal_ge r (10 * a + (b.toNat - 48))
  simp only [Lib.parseUintM]
  rw [if_pos hd,if_neg (by omega),if_neg (by omega),show a * 10 + (b.toNat - 48) = 10 * a + (b.toNat - 48) by omega]
  exact ih _ h.2 hv
theorem digVal_lt' (l : List UInt8) (h : l.all z2d = true) : ∀ a,z1l a l < (a + 1) * 10 ^ l.length:=by
 induction l with
 | nil => intro a; simp [z1l]
 | cons b r ih =>
  intro a
  simp only [List.all_cons,Bool.and_eq_true] at h
  have h1:=h.1
  simp only [z2d,Bool.and_eq_true,decide_eq_true_eq] at h1
  have:=ih h.2 (10 * a + (b.toNat - 48))
  rw [z17,List.length_cons,Nat.pow_succ]
  refine Nat.lt_of_lt_of_le this ?_
  calc (10 * a + (b.toNat - 48) + 1) * 10 ^ r.length ≤ ((a + 1) * 10) * 10 ^ r.length:=Nat.mul_le_mul_right _ (by omega)
   _ = (a + 1) * (10 ^ r.length * 10):=by rw [Nat.mul_assoc,Nat.mul_comm 10]
theorem digVal_lead (l : List UInt8) : ∀ a,a * 10 ^ l.length ≤ z1l a l:=by
 induction l with
 | nil => intro a; simp [z1l]
 | cons b r ih =>
  intro a
  rw [z17,List.length_cons,Nat.pow_succ]
  refine Nat.le_trans ?_ (ih _)
  calc a * (10 ^ r.length * 10) = (10 * a) * 10 ^ r.length:=by rw [Nat.mul_comm (10 ^ r.length),← Nat.mul_assoc,Nat.mul_comm a]
   _ ≤ _:=Nat.mul_le_mul_right _ (by omega)
theorem dec_of_digits (l : List UInt8) (hne : l ≠ []) (h : l.all z2d = true) (hz : l.length ≤ 1 ∨ l.head? ≠ some 48) : Lib.decDigits (z1l 0 l) = l:=by
 generalize hn : l.length = n
 induction n using Nat.strongRecOn generalizing l with
 | ind n ih =>
  rcases List.eq_nil_or_concat l with rfl | ⟨p,c,rfl⟩
  ·exact absurd rfl hne
  ·rw [List.concat_eq_append] at *
   rw [digVal_snoc']
   simp only [List.all_append,List.all_cons,List.all_nil,Bool.and_true,Bool.and_eq_true] at h
   have hc:=h.2
   simp only [z2d,Bool.and_eq_true,decide_eq_true_eq] at hc
   have hb : UInt8.ofNat (48 + (c.toNat - 48)) = c:=by
    have : 48 + (c.toNat - 48) = c.toNat:=by omega
    rw [this]; simp
   cases p with
   | nil =>
    have : z1l 0 [] = 0:=rfl
    rw [this,Nat.mul_zero,Nat.zero_add,Lib.decDigits,dif_pos (by omega),hb]
    rfl
   | cons b r =>
    have hh : b ≠ 48:=by
     rcases hz with hz | hz
     ·simp at hz
     ·simpa using hz
    have hbd:=h.1
    simp only [List.all_cons,Bool.and_eq_true] at hbd
    have hbd1:=hbd.1
    simp only [z2d,Bool.and_eq_true,decide_eq_true_eq] at hbd1
    have hb48 : b.toNat ≠ 48:=fun e => hh (UInt8.toNat.inj e)
    have hpos : 1 ≤ z1l 0 (b :: r):=by
     rw [z17]
     have:=digVal_ge r (10 * 0 + (b.toNat - 48))
     omega
    have hi:=ih (b :: r).length (by rw [← hn]; simp) (b :: r) (by simp) h.1 (.inr (by simpa using hh)) rfl
    rw [Lib.decDigits,dif_neg (by omega),show (10 * z1l 0 (b :: r) + (c.toNat - 48)) / 10 = z1l 0 (b :: r) by omega,show (10 * z1l 0 (b :: r) + (c.toNat - 48)) % 10 = c.toNat - 48 by omega,hi,hb]
theorem numOk_iff (l : List UInt8) (hne : l ≠ []) : z3e l = true ↔ ∃ n,Lib.parseUintM 4611686018427387903 0 l = .ok n ∧ n < 288230376151711744 ∧ Lib.decDigits n = l:=by
 constructor
 ·intro h
  simp only [z3e,Bool.and_eq_true,Bool.or_eq_true,decide_eq_true_eq,bne_iff_ne] at h
  obtain ⟨⟨⟨h1,_⟩,h3⟩,h4⟩:=h
  exact ⟨_,parse_small l 0 h1 h4,h4,dec_of_digits l hne h1 h3⟩
 ·rintro ⟨n,h1,h2,h3⟩
  obtain ⟨hall,rfl⟩:=parse_ok _ _ _ _ h1
  have hz : l.length ≤ 1 ∨ l.head? ≠ some 48:=by
   cases l with
   | nil => exact absurd rfl hne
   | cons b r =>
    by_cases h : r = []
    ·subst h; left; simp
    ·right
     intro hb
     simp only [List.head?_cons,Option.some.injEq] at hb
     subst hb
     have e : z1l 0 (48 :: r) = z1l 0 r:=by rw [z17]; rfl
     rw [e] at h3
     simp only [List.all_cons,Bool.and_eq_true] at hall
     have hlt:=digVal_lt' r hall.2 0
     have hr : 1 ≤ r.length:=List.length_pos_iff.2 h
     have hl:=congrArg List.length h3
     rw [Lib.decDigits_length,List.length_cons] at hl
     -- a number below 10 ^ r.length has at most r.length digits
     have hnd : Lib.nDigits (z1l 0 r) ≤ r.length:=by
      rw [Nat.zero_add,Nat.one_mul] at hlt
      have : ∀ k u,1 ≤ k → u < 10 ^ k → Lib.nDigits u ≤ k:=by
       intro k
       induction k with
       | zero => intro u h; omega
       | succ k ih =>
        intro u _ hu
        by_cases h10 : u < 10
        ·rw [Lib.nDigits_small h10]; omega
        ·rw [Lib.nDigits_big h10]
         have hk : 1 ≤ k:=by
          rcases Nat.eq_zero_or_pos k with rfl | hk
          ·simp at hu; omega
          ·exact hk
         have:=ih (u / 10) hk (by rw [Nat.pow_succ] at hu; omega)
         omega
      exact this _ _ hr hlt
     omega
  have hlen : l.length ≤ 18:=by
   rcases hz with hz | hz
   ·omega
   ·cases l with
    | nil => simp
    | cons b r =>
     have hb48 : b ≠ 48:=by simpa using hz
     have hbt : b.toNat ≠ 48:=fun e => hb48 (UInt8.toNat.inj e)
     simp only [List.all_cons,Bool.and_eq_true] at hall
     have hd:=hall.1
     simp only [z2d,Bool.and_eq_true,decide_eq_true_eq] at hd
     rw [z17] at h2
     have h5:=digVal_lead r (10 * 0 + (b.toNat - 48))
     have h6 : 10 ^ r.length ≤ (10 * 0 + (b.toNat - 48)) * 10 ^ r.length:=Nat.le_mul_of_pos_left _ (by omega)
     have h7 : 10 ^ r.length < 10 ^ 18:=by
      refine Nat.lt_of_le_of_lt (Nat.le_trans h6 h5) (Nat.lt_of_lt_of_le h2 (by decide))
     have h8:=(Nat.pow_lt_pow_iff_right (by decide : 1 < 10)).1 h7
     simp only [List.length_cons]; omega
  simp only [z3e,Bool.and_eq_true,Bool.or_eq_true,decide_eq_true_eq,bne_iff_ne]
  exact ⟨⟨⟨hall,hlen⟩,hz⟩,h2⟩
end Go.Proofs.YtpgdplmndnopbaaGreatDoor
