/- The book's parser walked: chains of expressions. (Printed by gen_rch.py.) -/
import Derived.Test.YtpgdplmndnopbaaGreatDoorZ07
import Derived.Test.YtpgdplmndnopbaaGreatDoorZ05
import Derived.Test.YtpgdplmndnopbaaGreatDoorZ02
set_option maxRecDepth 100000
set_option maxHeartbeats 16000000
namespace Go.Proofs.YtpgdplmndnopbaaGreatDoor
open Go.RowKit
def ErX (pb tb : Nat) (L : List Tok) (stop : Int) (P : Nat → Int → Prop) (e b : Int) (w : World) (en : Ending) (w' : World) : Prop :=
 ∃ k0 a0 n0 c0 b0 m0 d0 lo0 ls0 hi0 hs0 op0 nx d,en = .returned (.agg #[.int .u8 k0,.slice a0 n0 c0,.slice b0 m0 d0,.int .i64 lo0,.bool ls0,.int .i64 hi0,.bool hs0,.bool op0]) ∧ P nx d ∧ Same pb tb w w' L stop nx d e b
def OutRX (pb tb : Nat) (L : List Tok) (stop : Int) (deep : Nat) (bad : Int) (w : World) (r : PRes X) (en : Ending) (w' : World) : Prop :=
 match r with
 | .ok (x,l') => ∃ v nx,en = .returned v ∧ XI (pN w.heap.size) w' x v ∧ l' = z01 L stop nx ∧ Same pb tb w w' L stop nx deep 0 bad
 | .error c => c.1 ≠ 0 ∧ ErX pb tb L stop (fun _ d => (deep : Int) ≤ d ∧ d ≤ deep + 1) c.1 c.2 w en w'
theorem OutRX.ok {pb tb : Nat} {L : List Tok} {stop : Int} {deep : Nat} {bad : Int} {w w' : World} {x : X} {l : List Tok} {en : Ending} (h : OutRX pb tb L stop deep bad w (.ok (x,l)) en w') :
 ∃ k0 a0 n0 c0 b0 m0 d0 lo0 ls0 hi0 hs0 op0 nx,en = .returned (.agg #[.int .u8 k0,.slice a0 n0 c0,.slice b0 m0 d0,.int .i64 lo0,.bool ls0,.int .i64 hi0,.bool hs0,.bool op0]) ∧ XI (pN w.heap.size) w' x (.agg #[.int .u8 k0,.slice a0 n0 c0,.slice b0 m0 d0,.int .i64 lo0,.bool ls0,.int .i64 hi0,.bool hs0,.bool op0]) ∧ l = z01 L stop nx ∧ Same pb tb w w' L stop nx deep 0 bad:=by
 obtain ⟨v,nx,h1,h2,h3⟩:=h
 obtain ⟨k0,a0,n0,c0,b0,m0,d0,lo0,ls0,hi0,hs0,op0,rfl⟩:=h2.shape
 exact ⟨k0,a0,n0,c0,b0,m0,d0,lo0,ls0,hi0,hs0,op0,nx,h1,h2,h3⟩
theorem Same.set8 {pb tb : Nat} {w w' : World} {L : List Tok} {stop : Int} {nx : Nat} {d e b : Int} (h : Same pb tb w w' L stop nx d e b) {g : Nat} (hg : w.heap.size ≤ g) (hB : pb < w.heap.size ∧ (L = [] ∨ tb < w.heap.size)) (v0 v1 v2 v3 v4 v5 v6 v7 : Value) : Same pb tb w (Go.Proofs.YtpgdplmndnopbaaGreatDoor.set8 w' g v0 v1 v2 v3 v4 v5 v6 v7) L stop nx d e b :=
 (((((((h.setCell hg hB 0 v0).setCell hg hB 1 v1).setCell hg hB 2 v2).setCell hg hB 3 v3).setCell hg hB 4 v4).setCell hg hB 5 v5).setCell hg hB 6 v6).setCell hg hB 7 v7
structure ChAX (pb tb : Nat) (L : List Tok) (stop : Int) (deep : Nat) (bad : Int) (kr kv : Nat) (w wr : World) (x : X) (nx : Nat) : Prop where
 acc : ∃ k9 a9 n9 c9 b9 m9 d9 lo9 ls9 hi9 hs9 op9,wr.heap[kv]? = some (.cells #[.int .u8 k9,.slice a9 n9 c9,.slice b9 m9 d9,.int .i64 lo9,.bool ls9,.int .i64 hi9,.bool hs9,.bool op9] 28 (0,0)) ∧ XI (pC w.heap.size kr kv) wr x (.agg #[.int .u8 k9,.slice a9 n9 c9,.slice b9 m9 d9,.int .i64 lo9,.bool ls9,.int .i64 hi9,.bool hs9,.bool op9])
 st : Same pb tb w wr L stop nx deep 0 bad
 res : wr.heap[kr]? = some (.cells #[.int .u8 0,.slice none 0 0,.slice none 0 0,.int .i64 0,.bool false,.int .i64 0,.bool false,.bool false] 28 (0,0))
structure CeAX (pb tb : Nat) (L : List Tok) (stop : Int) (P : Nat → Int → Prop) (e b : Int) (kr kv : Nat) (w wr : World) : Prop where
 acc : ∃ k9 a9 n9 c9 b9 m9 d9 lo9 ls9 hi9 hs9 op9,wr.heap[kv]? = some (.cells #[.int .u8 k9,.slice a9 n9 c9,.slice b9 m9 d9,.int .i64 lo9,.bool ls9,.int .i64 hi9,.bool hs9,.bool op9] 28 (0,0))
 st : ∃ nx d,P nx d ∧ Same pb tb w wr L stop nx d e b
 res : wr.heap[kr]? = some (.cells #[.int .u8 0,.slice none 0 0,.slice none 0 0,.int .i64 0,.bool false,.int .i64 0,.bool false,.bool false] 28 (0,0))
theorem cat146_err (pb tb : Nat) (L : List Tok) (stop : Int) (P : Nat → Int → Prop) (e b : Int) (he : e ≠ 0) (w : World) (hB : pb < w.heap.size ∧ (L = [] ∨ tb < w.heap.size))
 (hone : Calls Tryz.prog 172 #[.pointer (some ⟨pb,0,none⟩)] (w.alloc (.cells #[.int .u8 0,.slice none 0 0,.slice none 0 0,.int .i64 0,.bool false,.int .i64 0,.bool false,.bool false] 28)) (ErX pb tb L stop P e b (w.alloc (.cells #[.int .u8 0,.slice none 0 0,.slice none 0 0,.int .i64 0,.bool false,.int .i64 0,.bool false,.bool false] 28)))) :
 Calls Tryz.prog 146 #[.pointer (some ⟨pb,0,none⟩)] w (ErX pb tb L stop P e b w):=by
 have HO:=Lib.hid hone
 have HB:=Lib.hid hB
 have HE:=Lib.hid he
 clear hone hB he
 go_enter Tryz.func146,Tryz.ntmps146
 go_wp2_with fail
 refine HO.out.mono ?_
 rintro en w1 ⟨k8,a8,n8,c8,b8,m8,d8,lo8,ls8,hi8,hs8,op8,nx,d,rfl,hP,hs⟩
 obtain ⟨kv,hkv⟩ : ∃ kv,kv = w1.heap.size:=⟨_,rfl⟩
 have hz:=hs.size
 have hz0 : (w.alloc (.cells #[.int .u8 0,.slice none 0 0,.slice none 0 0,.int .i64 0,.bool false,.int .i64 0,.bool false,.bool false] 28)).heap.size = w.heap.size + 1:=by simp
 have hkvp : kv ≠ pb:=by have:=HB.out.1; omega
 have hkr : w.heap.size ≠ kv:=by omega
 have H0 : Hid (CeAX pb tb L stop P e b w.heap.size kv w (w1.alloc (.cells #[.int .u8 k8,.slice a8 n8 c8,.slice b8 m8 d8,.int .i64 lo8,.bool ls8,.int .i64 hi8,.bool hs8,.bool op8] 28))) :=
  ⟨⟨_,_,_,_,_,_,_,_,_,_,_,_,z06 hkv⟩,⟨nx,d,hP,Same.alloc ⟨hs.1,((Bt.refl pb w).alloc _).trans hs.2⟩ _⟩,z0d (hs.at (z06 rfl) (by have:=HB.out.1; omega))⟩
 clear hs hP HO hz hz0
 go_wp2_with fail
 rw [← hkv]
 clear hkv
 go_loopw [] (fun wr => Hid (CeAX pb tb L stop P e b w.heap.size kv w wr)) (fun _ => 0)
 case atStart => exact H0
 case round =>
 clear H0
 obtain ⟨⟨k9,a9,n9,c9,b9,m9,d9,lo9,ls9,hi9,hs9,op9,hkv1⟩,⟨nx1,dq1,hP1,hs1⟩,hkr1⟩:=hrel.out
 have HM:=Lib.hid (z08 pb tb L stop nx1 dq1 e b ⟨#[59]⟩ HE.out wr hs1.1)
 have HS1:=Lib.hid hs1
 have HP1:=Lib.hid hP1
 have HKV:=Lib.hid hkv1
 have HKR:=Lib.hid hkr1
 clear hkv1 hP1 hs1 hkr1 hrel
 go_wp2_with fail
 refine HM.out.mono ?_
 rintro en w2 ⟨rfl,hs2⟩
 have hkv2:=hs2.at HKV.out hkvp
 have hkr2:=hs2.at HKR.out (by have:=HB.out.1; omega)
 have HS2:=Lib.hid (RP.same HS1.out hs2)
 clear hs2
 have g0:=True.intro
 obtain ⟨xd0,xd1,xd2,xd3,xd4,xd5,xd6,xd7⟩:=cc8 hkv2
 obtain ⟨xe0,xe1,xe2,xe3,xe4,xe5,xe6,xe7,xf0,xf1,xf2,xf3,xf4,xf5,xf6,xf7⟩:=cf8 hkr2
 have HAT : Hid ((set8 w2 w.heap.size (.int .u8 k9) (.slice a9 n9 c9) (.slice b9 m9 d9) (.int .i64 lo9) (.bool ls9) (.int .i64 hi9) (.bool hs9) (.bool op9)).heap[w.heap.size]? = some (.cells #[.int .u8 k9,.slice a9 n9 c9,.slice b9 m9 d9,.int .i64 lo9,.bool ls9,.int .i64 hi9,.bool hs9,.bool op9] 28 (0,0))):=z0c hkr2 _ _ _ _ _ _ _ _ 
 have HOUT : Hid (ErX pb tb L stop P e b w (.returned (.agg #[.int .u8 k9,.slice a9 n9 c9,.slice b9 m9 d9,.int .i64 lo9,.bool ls9,.int .i64 hi9,.bool hs9,.bool op9])) (set8 w2 w.heap.size (.int .u8 k9) (.slice a9 n9 c9) (.slice b9 m9 d9) (.int .i64 lo9) (.bool ls9) (.int .i64 hi9) (.bool hs9) (.bool op9))):=⟨_,_,_,_,_,_,_,_,_,_,_,_,nx1,dq1,rfl,HP1.out,HS2.out.set8 (Nat.le_refl _) HB.out _ _ _ _ _ _ _ _ ⟩
 clear hkv2 hkr2 g0
 go_wp2_with fail
 refine bodyPost_ret (results_cell_row rfl _ _ _ _ _ _ _ rfl HAT.out Tryz.underlying28 rfl (by kernel_rfl)) rfl ?_
 exact HOUT.out
theorem cat146_chain (pb tb : Nat) (L : List Tok) (stop : Int) (deep : Nat) (bad : Int) (one : List Tok → PRes X) (hsh : ∀ l x r,one l = .ok (x,r) → r.length ≤ l.length) (hne : ∀ l c,Ends l → one l = .error c → c.1 ≠ 0) (nx : Nat) (w : World) (h : RP pb tb w L stop nx deep 0 bad)
 (hone : ∀ w' nx',Bt pb w w' → RP pb tb w' L stop nx' deep 0 bad → Calls Tryz.prog 172 #[.pointer (some ⟨pb,0,none⟩)] w' (OutRX pb tb L stop deep bad w' (one (z01 L stop nx')))) :
 Calls Tryz.prog 146 #[.pointer (some ⟨pb,0,none⟩)] w (OutRX pb tb L stop deep bad w (z0g [59] one (fun a b => z12 4 a b) (z01 L stop nx))):=by
 have hB:=h.base
 obtain ⟨W1,hW1⟩ : ∃ W1,W1 = w.alloc (.cells #[.int .u8 0,.slice none 0 0,.slice none 0 0,.int .i64 0,.bool false,.int .i64 0,.bool false,.bool false] 28):=⟨_,rfl⟩
 have hs1 : Same pb tb w W1 L stop nx deep 0 bad:=by rw [hW1]; exact h.self.alloc _
 have hr1 : W1.heap[w.heap.size]? = some (.cells #[.int .u8 0,.slice none 0 0,.slice none 0 0,.int .i64 0,.bool false,.int .i64 0,.bool false,.bool false] 28 (0,0)):=by rw [hW1]; exact z06 rfl
 have hz1 : W1.heap.size = w.heap.size + 1:=by rw [hW1]; simp
 have hH1:=hone W1 nx hs1.2 hs1.1
 cases q : one (z01 L stop nx) with
 | error c =>
  rw [q] at hH1
  have HR : z0g [59] one (fun a b => z12 4 a b) (z01 L stop nx) = .error c:=by unfold z0g; rw [q]
  rw [HR]
  by_cases h0 : c.1 = 0
  ·exact absurd h0 (hne _ _ (z33 ..) q)
  ·rw [hW1] at hH1
   refine (cat146_err pb tb L stop _ c.1 c.2 h0 w hB (hH1.mono fun _ _ h => h.2)).mono fun _ _ h => ⟨h0,h⟩
 | ok xr =>
  obtain ⟨x,r⟩:=xr
  rw [q] at hH1
  obtain ⟨RES,hRES⟩ : ∃ RES,RES = z0g [59] one (fun a b => z12 4 a b) (z01 L stop nx):=⟨_,rfl⟩
  have HR : Hid (RES = z0n [59] one (fun a b => z12 4 a b) r.length x r):=by rw [Hid,hRES]; unfold z0g; rw [q]
  rw [← hRES]
  have HO:=Lib.hid hH1
  have HS1:=Lib.hid hs1
  have HR1:=Lib.hid hr1
  have HB:=Lib.hid hB
  have HSH:=Lib.hid hsh
  have HON:=Lib.hid hone
  have HZ1:=Lib.hid hz1
  have hln:=h.len
  clear q hH1 hs1 hr1 hB hsh hone hz1 hRES h
  rw [hW1] at HO
  go_enter Tryz.func146,Tryz.ntmps146
  go_wp2_with fail
  refine HO.out.mono ?_
  rintro en w1 ho
  obtain ⟨k1,a1,n1,c1,b1,m1,d1,lo1,ls1,hi1,hs1,op1,nx1,rfl,hf,hr,hs⟩:=OutRX.ok ho
  rw [← hW1] at hf hs
  obtain ⟨kv,hkv⟩ : ∃ kv,kv = w1.heap.size:=⟨_,rfl⟩
  have hz:=hs.size
  have hkvp : kv ≠ pb:=by have:=HB.out.1; have:=HZ1.out; omega
  have hkr : w.heap.size ≠ kv:=by have:=HZ1.out; omega
  have hle : w.heap.size ≤ kv:=by have:=HZ1.out; omega
  have H0 : Hid (ChAX pb tb L stop deep bad w.heap.size kv w (w1.alloc (.cells #[.int .u8 k1,.slice a1 n1 c1,.slice b1 m1 d1,.int .i64 lo1,.bool ls1,.int .i64 hi1,.bool hs1,.bool op1] 28)) x nx1):=by
   refine ⟨⟨_,_,_,_,_,_,_,_,_,_,_,_,z06 hkv,hf.go ⟨by simp,fun b hb' hpn => ⟨?_,Lib.alloc_old _ _ _ hb'⟩⟩⟩,Same.alloc (RP.same HS1.out hs) _,z0d (hs.at HR1.out (by have:=HB.out.1; omega))⟩
   have : W1.heap.size ≤ b:=by simpa [pN] using hpn
   have:=HZ1.out
   simp only [pC,Bool.and_eq_true,decide_eq_true_eq,bne_iff_ne,ne_eq]
   omega
  subst hr
  clear ho hf hs HO HS1 HR1 hW1 hz
  go_wp2_with fail
  rw [← hkv]
  clear hkv
  go_loopw [] (fun wr => (∃ (x' : X) (nx' n' : Nat),(z01 L stop nx').length ≤ n' ∧ Hid (RES = z0n [59] one (fun a b => z12 4 a b) n' x' (z01 L stop nx')) ∧ Hid (ChAX pb tb L stop deep bad w.heap.size kv w wr x' nx')) ∨ (∃ c : Int × Int,c.1 ≠ 0 ∧ Hid (RES = .error c) ∧ Hid (CeAX pb tb L stop (fun _ d => (deep : Int) ≤ d ∧ d ≤ deep + 1) c.1 c.2 w.heap.size kv w wr))) (fun wr => z1d pb L.length wr)
  case atStart => exact .inl ⟨x,nx1,_,Nat.le_refl _,HR,H0⟩
  case round =>
  clear H0
  rcases hrel with ⟨x',nx',n',hn',HEQ,HC⟩ | ⟨c,hc0,HEQ,HC⟩
  ·obtain ⟨⟨k9,a9,n9,c9,b9,m9,d9,lo9,ls9,hi9,hs9,op9,hkvb,hfi⟩,hst,hkr1⟩:=HC.out
   have HM:=Lib.hid (z0e pb tb L stop nx' deep bad ⟨#[59]⟩ (by decide) wr hst.1)
   have HKV:=Lib.hid hkvb
   have HFI:=Lib.hid hfi
   have HST:=Lib.hid hst
   have HKR:=Lib.hid hkr1
   clear hkvb hfi hst hkr1
   cases qi : isT [59] (z01 L stop nx') with
   | false =>
    rw [show (⟨#[59]⟩ : ByteArray).data.toList = [59] from rfl,qi] at HM
    simp only [Bool.false_eq_true,if_false] at HM
    have HFIN : Hid (RES = .ok (x',z01 L stop nx')):=by
     rw [Hid,HEQ.out]
     cases n' with
     | zero => rw [z0a] at hn'; omega
     | succ n' => simp only [z0n]; rw [qi]; simp
    clear qi hn'
    go_wp2_with fail
    refine HM.out.mono ?_
    rintro en w2 ⟨rfl,hs2⟩
    have hkv2:=hs2.at HKV.out hkvp
    have hkr2:=hs2.at HKR.out (by have:=HB.out.1; omega)
    have HS2:=Lib.hid (RP.same HST.out hs2)
    have HBT2:=Lib.hid hs2.2
    clear hs2
    have g0:=True.intro
    obtain ⟨xd0,xd1,xd2,xd3,xd4,xd5,xd6,xd7⟩:=cc8 hkv2
    obtain ⟨xe0,xe1,xe2,xe3,xe4,xe5,xe6,xe7,xf0,xf1,xf2,xf3,xf4,xf5,xf6,xf7⟩:=cf8 hkr2
    have HAT : Hid ((set8 w2 w.heap.size (.int .u8 k9) (.slice a9 n9 c9) (.slice b9 m9 d9) (.int .i64 lo9) (.bool ls9) (.int .i64 hi9) (.bool hs9) (.bool op9)).heap[w.heap.size]? = some (.cells #[.int .u8 k9,.slice a9 n9 c9,.slice b9 m9 d9,.int .i64 lo9,.bool ls9,.int .i64 hi9,.bool hs9,.bool op9] 28 (0,0))):=z0c hkr2 _ _ _ _ _ _ _ _ 
    have HOUT : Hid (OutRX pb tb L stop deep bad w (.ok (x',z01 L stop nx')) (.returned (.agg #[.int .u8 k9,.slice a9 n9 c9,.slice b9 m9 d9,.int .i64 lo9,.bool ls9,.int .i64 hi9,.bool hs9,.bool op9])) (set8 w2 w.heap.size (.int .u8 k9) (.slice a9 n9 c9) (.slice b9 m9 d9) (.int .i64 lo9) (.bool ls9) (.int .i64 hi9) (.bool hs9) (.bool op9))):=by
     refine ⟨_,nx',rfl,?_,rfl,HS2.out.set8 (Nat.le_refl _) HB.out _ _ _ _ _ _ _ _ ⟩
     refine HFI.out.go ⟨?_,fun b hbz hpc => ?_⟩
     ·rw [z0b]; exact HBT2.out.2.2.2.1
     ·simp only [pC,Bool.and_eq_true,decide_eq_true_eq,bne_iff_ne,ne_eq] at hpc
      have:=HB.out.1
      exact ⟨by simpa [pN] using hpc.1.1,(z03 _ _ _ _ _ _ _ _ _ _ _ hpc.1.2).trans (HBT2.out.2.2.2.2 b hbz (by omega))⟩
    clear hkv2 hkr2 g0
    go_wp2_with fail
    refine bodyPost_ret (results_cell_row rfl _ _ _ _ _ _ _ rfl HAT.out Tryz.underlying28 rfl (by kernel_rfl)) rfl ?_
    rw [HFIN.out]
    exact HOUT.out
   | true =>
    rw [show (⟨#[59]⟩ : ByteArray).data.toList = [59] from rfl,qi] at HM
    simp only [if_true] at HM
    have hlt:=z0z (s:=[59]) (by decide) qi
    obtain ⟨n0,rfl⟩ : ∃ n0,n' = n0 + 1:=⟨n' - 1,by rw [z0a] at hn'; omega⟩
    have HSTEP : Hid (RES = match one (z01 L stop (nx' + 1)) with
     | .error e => .error e
     | .ok (y,r') => z0n [59] one (fun a b => z12 4 a b) n0 ((fun a b => z12 4 a b) x' y) r'):=by
     rw [Hid,HEQ.out,← z0p hlt]; simp only [z0n]; rw [qi]; simp only [if_true]; cases one (z01 L stop nx').tail <;> rfl
    have HLT:=Lib.hid hlt
    have HNL:=Lib.hid hn'
    clear qi hlt hn'
    go_wp2_with fail
    refine HM.out.mono ?_
    rintro en w2 ⟨rfl,hs2⟩
    have hkv2:=hs2.at HKV.out hkvp
    have hkr2:=hs2.at HKR.out (by have:=HB.out.1; omega)
    have HS2:=Lib.hid (RP.same HST.out hs2)
    have HBT2:=Lib.hid hs2.2
    have HS : Hid (∀ W,Bt pb w2 W → W.cell? ⟨kv,0,none⟩ = some (.int .u8 k9) ∧ W.cell? ⟨kv,1,none⟩ = some (.slice a9 n9 c9) ∧ W.cell? ⟨kv,2,none⟩ = some (.slice b9 m9 d9) ∧ W.cell? ⟨kv,3,none⟩ = some (.int .i64 lo9) ∧ W.cell? ⟨kv,4,none⟩ = some (.bool ls9) ∧ W.cell? ⟨kv,5,none⟩ = some (.int .i64 hi9) ∧ W.cell? ⟨kv,6,none⟩ = some (.bool hs9) ∧ W.cell? ⟨kv,7,none⟩ = some (.bool op9)):=by
     intro W hW
     have e:=hW.at hkv2 hkvp
     exact ⟨Lib.cell_of_heap e 0,Lib.cell_of_heap e 1,Lib.cell_of_heap e 2,Lib.cell_of_heap e 3,Lib.cell_of_heap e 4,Lib.cell_of_heap e 5,Lib.cell_of_heap e 6,Lib.cell_of_heap e 7⟩
    have HCALL:=Lib.hid (HON.out w2.drew (nx' + 1) HS2.out.2.drew HS2.out.1.drew)
    have hself : Bt pb w2 w2:=Bt.refl _ _
    have HKV2:=Lib.hid hkv2
    have HKR2:=Lib.hid hkr2
    clear hs2 hkv2 hkr2
    obtain ⟨RY,hRY⟩ : ∃ RY,RY = one (z01 L stop (nx' + 1)):=⟨_,rfl⟩
    rw [← hRY] at HSTEP HCALL
    have HRY:=Lib.hid hRY
    clear hRY
    go_wp2_with fail
    refine wp_region_held_drew (S:=fun _ => True) (by kernel_rfl) trivial (fun hHeld => ?_)
    refine wpAnyH_take (i:=1) (v:=?_) rfl (by kernel_rfl) (by kernel_rfl) (by kernel_rfl) (fun _ _ _ h => h) (Or.inl ⟨by kernel_rfl,?_⟩) (by assumption) ?_
    rotate_left
    ·(intro w hSw; (try dsimp only at hSw); go_simp)
     with_reducible rfl
    try simp only [Act.put,List.setIfInBounds_toArray]
    refine wpAnyH_ready (rs:=[0,2]) (by kernel_rfl) (by simp) ?_
    have v0:=HS.out _ hself
    obtain ⟨v0_,v1_,v2_,v3_,v4_,v5_,v6_,v7_⟩:=v0
    refine AllReadyH.cons rfl (fun K hK => ?_) (AllReadyH.cons rfl (fun K hK => ?_) AllReadyH.nil)
    ·go_simp
     refine hK.out _ _ trivial (fun _ => ?_)
     clear hK K
     try simp only [Act.put,List.setIfInBounds_toArray,List.set_cons_zero,List.set_cons_succ]
     refine wpAnyH_ready (rs:=[2]) (by kernel_rfl) (by simp) ?_
     refine AllReadyH.cons rfl (fun K hK => ?_) AllReadyH.nil
     go_simp
     cases RY with
     | error cE =>
      refine HCALL.out.mono ?_
      rintro en w3 ⟨hc0,k2,a2,n2,c2,b2,m2,d2,lo2,ls2,hi2,hs2,op2,nx2,dq2,rfl,hd2,hs3⟩
      dsimp only
      have hkv3:=hs3.at HKV2.out hkvp
      have hkr3:=hs3.at HKR2.out (by have:=HB.out.1; omega)
      have HS3:=Lib.hid (RP.same HS2.out.drew hs3)
      have HD2:=Lib.hid hd2
      have HC0:=Lib.hid hc0
      clear hs3 hd2 hc0
      refine hK.out _ _ trivial (fun _ => ?_)
      clear hK K
      try simp only [Act.put,List.setIfInBounds_toArray,List.set_cons_zero,List.set_cons_succ]
      refine wpAnyH_ready (rs:=[3]) (by kernel_rfl) (by simp) ?_
      refine AllReadyH.cons rfl (fun K hK => ?_) AllReadyH.nil
      go_simp
      refine hK.out _ _ trivial (fun _ => ?_)
      clear hK K
      try simp only [Act.put,List.setIfInBounds_toArray,List.set_cons_zero,List.set_cons_succ]
      refine wpAnyH_take (i:=4) (v:=?_) rfl (by kernel_rfl) (by kernel_rfl) (by kernel_rfl) (fun _ _ _ h => h) (Or.inl ⟨by kernel_rfl,?_⟩) (by assumption) ?_
      rotate_left
      ·(intro w hSw; (try dsimp only at hSw); go_simp)
       with_reducible rfl
      try simp only [Act.put,List.setIfInBounds_toArray]
      have hkv4:=z0d (o:=.cells #[.int .u8 k9,.slice a9 n9 c9,.slice b9 m9 d9,.int .i64 lo9,.bool ls9,.int .i64 hi9,.bool hs9,.bool op9,.int .u8 k2,.slice a2 n2 c2,.slice b2 m2 d2,.int .i64 lo2,.bool ls2,.int .i64 hi2,.bool hs2,.bool op2] 28) hkv3
      have hkr4:=z0d (o:=.cells #[.int .u8 k9,.slice a9 n9 c9,.slice b9 m9 d9,.int .i64 lo9,.bool ls9,.int .i64 hi9,.bool hs9,.bool op9,.int .u8 k2,.slice a2 n2 c2,.slice b2 m2 d2,.int .i64 lo2,.bool ls2,.int .i64 hi2,.bool hs2,.bool op2] 28) hkr3
      obtain ⟨xd0,xd1,xd2,xd3,xd4,xd5,xd6,xd7,xf0,xf1,xf2,xf3,xf4,xf5,xf6,xf7⟩:=cf8 hkv4
      have HNEW : Hid (CeAX pb tb L stop (fun _ d => (deep : Int) ≤ d ∧ d ≤ deep + 1) cE.1 cE.2 w.heap.size kv w (set8 (w3.alloc (.cells #[.int .u8 k9,.slice a9 n9 c9,.slice b9 m9 d9,.int .i64 lo9,.bool ls9,.int .i64 hi9,.bool hs9,.bool op9,.int .u8 k2,.slice a2 n2 c2,.slice b2 m2 d2,.int .i64 lo2,.bool ls2,.int .i64 hi2,.bool hs2,.bool op2] 28)) kv (.int .u8 4) (.slice none 0 0) (.slice (some ⟨w3.heap.size,0,none⟩) 2 2) (.int .i64 0) (.bool false) (.int .i64 0) (.bool false) (.bool false))) :=
       ⟨⟨_,_,_,_,_,_,_,_,_,_,_,_,z0c hkv4 _ _ _ _ _ _ _ _ ⟩,⟨nx2,dq2,HD2.out,(Same.alloc HS3.out _).set8 hle HB.out _ _ _ _ _ _ _ _ ⟩,(z03 _ _ _ _ _ _ _ _ _ _ _ hkr).trans hkr4⟩
      clear hkv4 hkr4 hkv3 hkr3
      refine wpAnyH_ready (rs:=[5]) (by kernel_rfl) (by simp) ?_
      refine AllReadyH.cons rfl (fun K hK => ?_) AllReadyH.nil
      go_simp
      refine hK.out _ _ trivial (fun _ => ?_)
      clear hK K
      try simp only [Act.put,List.setIfInBounds_toArray,List.set_cons_zero,List.set_cons_succ]
      refine wpAnyH_done (by kernel_rfl) ?_ _
      have HLEFT : Hid (z1d pb L.length (set8 (w3.alloc (.cells #[.int .u8 k9,.slice a9 n9 c9,.slice b9 m9 d9,.int .i64 lo9,.bool ls9,.int .i64 hi9,.bool hs9,.bool op9,.int .u8 k2,.slice a2 n2 c2,.slice b2 m2 d2,.int .i64 lo2,.bool ls2,.int .i64 hi2,.bool hs2,.bool op2] 28)) kv (.int .u8 4) (.slice none 0 0) (.slice (some ⟨w3.heap.size,0,none⟩) 2 2) (.int .i64 0) (.bool false) (.int .i64 0) (.bool false) (.bool false)) < z1d pb L.length wr):=by
       obtain ⟨nxq,dq,_,hsq⟩:=HNEW.out.st
       rw [Hid,hsq.1.left,HST.out.1.left,if_neg HC0.out,if_pos rfl]
       have:=HLT.out
       omega
      clear xd0 xd1 xd2 xd3 xd4 xd5 xd6 xd7 xf0 xf1 xf2 xf3 xf4 xf5 xf6 xf7
      go_wp2_with fail
      go_roundw
      case rel => exact .inr ⟨cE,HC0.out,HSTEP.out,HNEW⟩
      case measure => exact HLEFT.out
     | ok yr =>
      obtain ⟨y,r'⟩:=yr
      refine HCALL.out.mono ?_
      rintro en w3 ho
      obtain ⟨k2,a2,n2,c2,b2,m2,d2,lo2,ls2,hi2,hs2,op2,nx2,rfl,hf2,hr2,hs3⟩:=OutRX.ok ho
      dsimp only
      have hkv3:=hs3.at HKV2.out hkvp
      have hkr3:=hs3.at HKR2.out (by have:=HB.out.1; omega)
      have HS3:=Lib.hid (RP.same HS2.out.drew hs3)
      have HBB:=Lib.hid hs3.2
      have HF2:=Lib.hid hf2
      have HR2:=Lib.hid hr2
      clear ho hf2 hr2 hs3
      refine hK.out _ _ trivial (fun _ => ?_)
      clear hK K
      try simp only [Act.put,List.setIfInBounds_toArray,List.set_cons_zero,List.set_cons_succ]
      refine wpAnyH_ready (rs:=[3]) (by kernel_rfl) (by simp) ?_
      refine AllReadyH.cons rfl (fun K hK => ?_) AllReadyH.nil
      go_simp
      refine hK.out _ _ trivial (fun _ => ?_)
      clear hK K
      try simp only [Act.put,List.setIfInBounds_toArray,List.set_cons_zero,List.set_cons_succ]
      refine wpAnyH_take (i:=4) (v:=?_) rfl (by kernel_rfl) (by kernel_rfl) (by kernel_rfl) (fun _ _ _ h => h) (Or.inl ⟨by kernel_rfl,?_⟩) (by assumption) ?_
      rotate_left
      ·(intro w hSw; (try dsimp only at hSw); go_simp)
       with_reducible rfl
      try simp only [Act.put,List.setIfInBounds_toArray]
      have hkv4:=z0d (o:=.cells #[.int .u8 k9,.slice a9 n9 c9,.slice b9 m9 d9,.int .i64 lo9,.bool ls9,.int .i64 hi9,.bool hs9,.bool op9,.int .u8 k2,.slice a2 n2 c2,.slice b2 m2 d2,.int .i64 lo2,.bool ls2,.int .i64 hi2,.bool hs2,.bool op2] 28) hkv3
      have hkr4:=z0d (o:=.cells #[.int .u8 k9,.slice a9 n9 c9,.slice b9 m9 d9,.int .i64 lo9,.bool ls9,.int .i64 hi9,.bool hs9,.bool op9,.int .u8 k2,.slice a2 n2 c2,.slice b2 m2 d2,.int .i64 lo2,.bool ls2,.int .i64 hi2,.bool hs2,.bool op2] 28) hkr3
      obtain ⟨xd0,xd1,xd2,xd3,xd4,xd5,xd6,xd7,xf0,xf1,xf2,xf3,xf4,xf5,xf6,xf7⟩:=cf8 hkv4
      have HNEW : Hid (ChAX pb tb L stop deep bad w.heap.size kv w (set8 (w3.alloc (.cells #[.int .u8 k9,.slice a9 n9 c9,.slice b9 m9 d9,.int .i64 lo9,.bool ls9,.int .i64 hi9,.bool hs9,.bool op9,.int .u8 k2,.slice a2 n2 c2,.slice b2 m2 d2,.int .i64 lo2,.bool ls2,.int .i64 hi2,.bool hs2,.bool op2] 28)) kv (.int .u8 4) (.slice none 0 0) (.slice (some ⟨w3.heap.size,0,none⟩) 2 2) (.int .i64 0) (.bool false) (.int .i64 0) (.bool false) (.bool false)) ((fun a b => z12 4 a b) x' y) nx2):=by
       have hsz3:=HS3.out.size
       have hz2:=HS2.out.size
       have hzb:=HBB.out.2.2.2.1
       have hzd : w2.drew.heap.size = w2.heap.size:=rfl
       have hkvl:=(Array.getElem?_eq_some_iff.1 HKV2.out).1
       have hg4 : (w3.alloc (.cells #[.int .u8 k9,.slice a9 n9 c9,.slice b9 m9 d9,.int .i64 lo9,.bool ls9,.int .i64 hi9,.bool hs9,.bool op9,.int .u8 k2,.slice a2 n2 c2,.slice b2 m2 d2,.int .i64 lo2,.bool ls2,.int .i64 hi2,.bool hs2,.bool op2] 28)).heap[w3.heap.size]? = some (.cells #[.int .u8 k9,.slice a9 n9 c9,.slice b9 m9 d9,.int .i64 lo9,.bool ls9,.int .i64 hi9,.bool hs9,.bool op9,.int .u8 k2,.slice a2 n2 c2,.slice b2 m2 d2,.int .i64 lo2,.bool ls2,.int .i64 hi2,.bool hs2,.bool op2] 28 (0,0)):=z06 rfl
       have hal : ∀ b,b < w3.heap.size → (w3.alloc (.cells #[.int .u8 k9,.slice a9 n9 c9,.slice b9 m9 d9,.int .i64 lo9,.bool ls9,.int .i64 hi9,.bool hs9,.bool op9,.int .u8 k2,.slice a2 n2 c2,.slice b2 m2 d2,.int .i64 lo2,.bool ls2,.int .i64 hi2,.bool hs2,.bool op2] 28)).heap[b]? = w3.heap[b]?:=fun b hb => Lib.alloc_old _ _ _ hb
       have hsz4 : (w3.alloc (.cells #[.int .u8 k9,.slice a9 n9 c9,.slice b9 m9 d9,.int .i64 lo9,.bool ls9,.int .i64 hi9,.bool hs9,.bool op9,.int .u8 k2,.slice a2 n2 c2,.slice b2 m2 d2,.int .i64 lo2,.bool ls2,.int .i64 hi2,.bool hs2,.bool op2] 28)).heap.size = w3.heap.size + 1:=by simp
       have hB1:=HB.out.1
       have hfx : XI (pC w.heap.size w.heap.size kv) (w3.alloc (.cells #[.int .u8 k9,.slice a9 n9 c9,.slice b9 m9 d9,.int .i64 lo9,.bool ls9,.int .i64 hi9,.bool hs9,.bool op9,.int .u8 k2,.slice a2 n2 c2,.slice b2 m2 d2,.int .i64 lo2,.bool ls2,.int .i64 hi2,.bool hs2,.bool op2] 28)) x' (.agg #[.int .u8 k9,.slice a9 n9 c9,.slice b9 m9 d9,.int .i64 lo9,.bool ls9,.int .i64 hi9,.bool hs9,.bool op9]):=by
        refine HFI.out.go ⟨?_,fun b hbz hpc => ⟨hpc,?_⟩⟩
        ·have:=HBT2.out.2.2.2.1; omega
        ·simp only [pC,Bool.and_eq_true,decide_eq_true_eq,bne_iff_ne,ne_eq] at hpc
         have:=HBT2.out.2.2.2.1
         exact (hal b (by omega)).trans ((HBT2.out.trans (Bt.trans (Bt.refl pb w2).drew HBB.out)).2.2.2.2 b hbz (by omega))
       have hfy : XI (pC w.heap.size w.heap.size kv) (w3.alloc (.cells #[.int .u8 k9,.slice a9 n9 c9,.slice b9 m9 d9,.int .i64 lo9,.bool ls9,.int .i64 hi9,.bool hs9,.bool op9,.int .u8 k2,.slice a2 n2 c2,.slice b2 m2 d2,.int .i64 lo2,.bool ls2,.int .i64 hi2,.bool hs2,.bool op2] 28)) y (.agg #[.int .u8 k2,.slice a2 n2 c2,.slice b2 m2 d2,.int .i64 lo2,.bool ls2,.int .i64 hi2,.bool hs2,.bool op2]):=by
        refine HF2.out.go ⟨by omega,fun b hbz hpn => ⟨?_,hal b hbz⟩⟩
        have hpn' : w2.heap.size ≤ b:=of_decide_eq_true (show decide (w2.heap.size ≤ b) = true from hpn)
        simp only [pC,Bool.and_eq_true,decide_eq_true_eq,bne_iff_ne,ne_eq]
        omega
       have hft:=XI.two hfx hfy 4 w3.heap.size 2 0 none (0,0) (by simp only [pC,Bool.and_eq_true,decide_eq_true_eq,bne_iff_ne,ne_eq]; omega) hg4
       refine ⟨⟨_,_,_,_,_,_,_,_,_,_,_,_,z0c hkv4 _ _ _ _ _ _ _ _ ,hft.go ⟨by rw [z0b]; exact Nat.le_refl _,fun b hbz hpc => ⟨hpc,z03 _ _ _ _ _ _ _ _ _ _ _ ?_⟩⟩⟩,(Same.alloc HS3.out _).set8 hle HB.out _ _ _ _ _ _ _ _ ,(z03 _ _ _ _ _ _ _ _ _ _ _ hkr).trans hkr4⟩
       simp only [pC,Bool.and_eq_true,decide_eq_true_eq,bne_iff_ne,ne_eq] at hpc
       exact hpc.2
      clear hkv4 hkr4 hkv3 hkr3
      refine wpAnyH_ready (rs:=[5]) (by kernel_rfl) (by simp) ?_
      refine AllReadyH.cons rfl (fun K hK => ?_) AllReadyH.nil
      go_simp
      refine hK.out _ _ trivial (fun _ => ?_)
      clear hK K
      try simp only [Act.put,List.setIfInBounds_toArray,List.set_cons_zero,List.set_cons_succ]
      refine wpAnyH_done (by kernel_rfl) ?_ _
      have HLEN : Hid ((z01 L stop nx2).length ≤ n0 ∧ nx' < nx2):=by
       have h1:=HSH.out _ _ _ HRY.out.symm
       rw [HR2.out,z0a,z0a] at h1
       have h2:=HNL.out
       rw [z0a] at h2
       have h3:=HLT.out
       have h4:=HS3.out.1.le
       rw [Hid,z0a]
       omega
      have HLEFT : Hid (z1d pb L.length (set8 (w3.alloc (.cells #[.int .u8 k9,.slice a9 n9 c9,.slice b9 m9 d9,.int .i64 lo9,.bool ls9,.int .i64 hi9,.bool hs9,.bool op9,.int .u8 k2,.slice a2 n2 c2,.slice b2 m2 d2,.int .i64 lo2,.bool ls2,.int .i64 hi2,.bool hs2,.bool op2] 28)) kv (.int .u8 4) (.slice none 0 0) (.slice (some ⟨w3.heap.size,0,none⟩) 2 2) (.int .i64 0) (.bool false) (.int .i64 0) (.bool false) (.bool false)) < z1d pb L.length wr):=by
       rw [Hid,HNEW.out.st.1.left,HST.out.1.left,if_pos rfl,if_pos rfl]
       have:=HLT.out
       have:=HLEN.out.2
       omega
      clear xd0 xd1 xd2 xd3 xd4 xd5 xd6 xd7 xf0 xf1 xf2 xf3 xf4 xf5 xf6 xf7
      go_wp2_with fail
      go_roundw
      case rel => exact .inl ⟨_,nx2,n0,HLEN.out.1,by rw [Hid,HSTEP.out,HR2.out],HNEW⟩
      case measure => exact HLEFT.out
    ·go_simp
     cases RY with
     | error cE =>
      refine HCALL.out.mono ?_
      rintro en w3 ⟨hc0,k2,a2,n2,c2,b2,m2,d2,lo2,ls2,hi2,hs2,op2,nx2,dq2,rfl,hd2,hs3⟩
      dsimp only
      have hkv3:=hs3.at HKV2.out hkvp
      have hkr3:=hs3.at HKR2.out (by have:=HB.out.1; omega)
      have HS3:=Lib.hid (RP.same HS2.out.drew hs3)
      have HD2:=Lib.hid hd2
      have HC0:=Lib.hid hc0
      clear hs3 hd2 hc0
      refine hK.out _ _ trivial (fun _ => ?_)
      clear hK K
      try simp only [Act.put,List.setIfInBounds_toArray,List.set_cons_zero,List.set_cons_succ]
      refine wpAnyH_ready (rs:=[0]) (by kernel_rfl) (by simp) ?_
      refine AllReadyH.cons rfl (fun K hK => ?_) AllReadyH.nil
      obtain ⟨xg0,xg1,xg2,xg3,xg4,xg5,xg6,xg7⟩:=cc8 hkv3
      go_simp
      refine hK.out _ _ trivial (fun _ => ?_)
      clear hK K
      try simp only [Act.put,List.setIfInBounds_toArray,List.set_cons_zero,List.set_cons_succ]
      refine wpAnyH_ready (rs:=[3]) (by kernel_rfl) (by simp) ?_
      refine AllReadyH.cons rfl (fun K hK => ?_) AllReadyH.nil
      go_simp
      refine hK.out _ _ trivial (fun _ => ?_)
      clear hK K
      try simp only [Act.put,List.setIfInBounds_toArray,List.set_cons_zero,List.set_cons_succ]
      refine wpAnyH_take (i:=4) (v:=?_) rfl (by kernel_rfl) (by kernel_rfl) (by kernel_rfl) (fun _ _ _ h => h) (Or.inl ⟨by kernel_rfl,?_⟩) (by assumption) ?_
      rotate_left
      ·(intro w hSw; (try dsimp only at hSw); go_simp)
       with_reducible rfl
      try simp only [Act.put,List.setIfInBounds_toArray]
      have hkv4:=z0d (o:=.cells #[.int .u8 k9,.slice a9 n9 c9,.slice b9 m9 d9,.int .i64 lo9,.bool ls9,.int .i64 hi9,.bool hs9,.bool op9,.int .u8 k2,.slice a2 n2 c2,.slice b2 m2 d2,.int .i64 lo2,.bool ls2,.int .i64 hi2,.bool hs2,.bool op2] 28) hkv3
      have hkr4:=z0d (o:=.cells #[.int .u8 k9,.slice a9 n9 c9,.slice b9 m9 d9,.int .i64 lo9,.bool ls9,.int .i64 hi9,.bool hs9,.bool op9,.int .u8 k2,.slice a2 n2 c2,.slice b2 m2 d2,.int .i64 lo2,.bool ls2,.int .i64 hi2,.bool hs2,.bool op2] 28) hkr3
      obtain ⟨xd0,xd1,xd2,xd3,xd4,xd5,xd6,xd7,xf0,xf1,xf2,xf3,xf4,xf5,xf6,xf7⟩:=cf8 hkv4
      have HNEW : Hid (CeAX pb tb L stop (fun _ d => (deep : Int) ≤ d ∧ d ≤ deep + 1) cE.1 cE.2 w.heap.size kv w (set8 (w3.alloc (.cells #[.int .u8 k9,.slice a9 n9 c9,.slice b9 m9 d9,.int .i64 lo9,.bool ls9,.int .i64 hi9,.bool hs9,.bool op9,.int .u8 k2,.slice a2 n2 c2,.slice b2 m2 d2,.int .i64 lo2,.bool ls2,.int .i64 hi2,.bool hs2,.bool op2] 28)) kv (.int .u8 4) (.slice none 0 0) (.slice (some ⟨w3.heap.size,0,none⟩) 2 2) (.int .i64 0) (.bool false) (.int .i64 0) (.bool false) (.bool false))) :=
       ⟨⟨_,_,_,_,_,_,_,_,_,_,_,_,z0c hkv4 _ _ _ _ _ _ _ _ ⟩,⟨nx2,dq2,HD2.out,(Same.alloc HS3.out _).set8 hle HB.out _ _ _ _ _ _ _ _ ⟩,(z03 _ _ _ _ _ _ _ _ _ _ _ hkr).trans hkr4⟩
      clear hkv4 hkr4 hkv3 hkr3
      refine wpAnyH_ready (rs:=[5]) (by kernel_rfl) (by simp) ?_
      refine AllReadyH.cons rfl (fun K hK => ?_) AllReadyH.nil
      go_simp
      refine hK.out _ _ trivial (fun _ => ?_)
      clear hK K
      try simp only [Act.put,List.setIfInBounds_toArray,List.set_cons_zero,List.set_cons_succ]
      refine wpAnyH_done (by kernel_rfl) ?_ _
      have HLEFT : Hid (z1d pb L.length (set8 (w3.alloc (.cells #[.int .u8 k9,.slice a9 n9 c9,.slice b9 m9 d9,.int .i64 lo9,.bool ls9,.int .i64 hi9,.bool hs9,.bool op9,.int .u8 k2,.slice a2 n2 c2,.slice b2 m2 d2,.int .i64 lo2,.bool ls2,.int .i64 hi2,.bool hs2,.bool op2] 28)) kv (.int .u8 4) (.slice none 0 0) (.slice (some ⟨w3.heap.size,0,none⟩) 2 2) (.int .i64 0) (.bool false) (.int .i64 0) (.bool false) (.bool false)) < z1d pb L.length wr):=by
       obtain ⟨nxq,dq,_,hsq⟩:=HNEW.out.st
       rw [Hid,hsq.1.left,HST.out.1.left,if_neg HC0.out,if_pos rfl]
       have:=HLT.out
       omega
      clear xd0 xd1 xd2 xd3 xd4 xd5 xd6 xd7 xf0 xf1 xf2 xf3 xf4 xf5 xf6 xf7
      go_wp2_with fail
      go_roundw
      case rel => exact .inr ⟨cE,HC0.out,HSTEP.out,HNEW⟩
      case measure => exact HLEFT.out
     | ok yr =>
      obtain ⟨y,r'⟩:=yr
      refine HCALL.out.mono ?_
      rintro en w3 ho
      obtain ⟨k2,a2,n2,c2,b2,m2,d2,lo2,ls2,hi2,hs2,op2,nx2,rfl,hf2,hr2,hs3⟩:=OutRX.ok ho
      dsimp only
      have hkv3:=hs3.at HKV2.out hkvp
      have hkr3:=hs3.at HKR2.out (by have:=HB.out.1; omega)
      have HS3:=Lib.hid (RP.same HS2.out.drew hs3)
      have HBB:=Lib.hid hs3.2
      have HF2:=Lib.hid hf2
      have HR2:=Lib.hid hr2
      clear ho hf2 hr2 hs3
      refine hK.out _ _ trivial (fun _ => ?_)
      clear hK K
      try simp only [Act.put,List.setIfInBounds_toArray,List.set_cons_zero,List.set_cons_succ]
      refine wpAnyH_ready (rs:=[0]) (by kernel_rfl) (by simp) ?_
      refine AllReadyH.cons rfl (fun K hK => ?_) AllReadyH.nil
      obtain ⟨xg0,xg1,xg2,xg3,xg4,xg5,xg6,xg7⟩:=cc8 hkv3
      go_simp
      refine hK.out _ _ trivial (fun _ => ?_)
      clear hK K
      try simp only [Act.put,List.setIfInBounds_toArray,List.set_cons_zero,List.set_cons_succ]
      refine wpAnyH_ready (rs:=[3]) (by kernel_rfl) (by simp) ?_
      refine AllReadyH.cons rfl (fun K hK => ?_) AllReadyH.nil
      go_simp
      refine hK.out _ _ trivial (fun _ => ?_)
      clear hK K
      try simp only [Act.put,List.setIfInBounds_toArray,List.set_cons_zero,List.set_cons_succ]
      refine wpAnyH_take (i:=4) (v:=?_) rfl (by kernel_rfl) (by kernel_rfl) (by kernel_rfl) (fun _ _ _ h => h) (Or.inl ⟨by kernel_rfl,?_⟩) (by assumption) ?_
      rotate_left
      ·(intro w hSw; (try dsimp only at hSw); go_simp)
       with_reducible rfl
      try simp only [Act.put,List.setIfInBounds_toArray]
      have hkv4:=z0d (o:=.cells #[.int .u8 k9,.slice a9 n9 c9,.slice b9 m9 d9,.int .i64 lo9,.bool ls9,.int .i64 hi9,.bool hs9,.bool op9,.int .u8 k2,.slice a2 n2 c2,.slice b2 m2 d2,.int .i64 lo2,.bool ls2,.int .i64 hi2,.bool hs2,.bool op2] 28) hkv3
      have hkr4:=z0d (o:=.cells #[.int .u8 k9,.slice a9 n9 c9,.slice b9 m9 d9,.int .i64 lo9,.bool ls9,.int .i64 hi9,.bool hs9,.bool op9,.int .u8 k2,.slice a2 n2 c2,.slice b2 m2 d2,.int .i64 lo2,.bool ls2,.int .i64 hi2,.bool hs2,.bool op2] 28) hkr3
      obtain ⟨xd0,xd1,xd2,xd3,xd4,xd5,xd6,xd7,xf0,xf1,xf2,xf3,xf4,xf5,xf6,xf7⟩:=cf8 hkv4
      have HNEW : Hid (ChAX pb tb L stop deep bad w.heap.size kv w (set8 (w3.alloc (.cells #[.int .u8 k9,.slice a9 n9 c9,.slice b9 m9 d9,.int .i64 lo9,.bool ls9,.int .i64 hi9,.bool hs9,.bool op9,.int .u8 k2,.slice a2 n2 c2,.slice b2 m2 d2,.int .i64 lo2,.bool ls2,.int .i64 hi2,.bool hs2,.bool op2] 28)) kv (.int .u8 4) (.slice none 0 0) (.slice (some ⟨w3.heap.size,0,none⟩) 2 2) (.int .i64 0) (.bool false) (.int .i64 0) (.bool false) (.bool false)) ((fun a b => z12 4 a b) x' y) nx2):=by
       have hsz3:=HS3.out.size
       have hz2:=HS2.out.size
       have hzb:=HBB.out.2.2.2.1
       have hzd : w2.drew.heap.size = w2.heap.size:=rfl
       have hkvl:=(Array.getElem?_eq_some_iff.1 HKV2.out).1
       have hg4 : (w3.alloc (.cells #[.int .u8 k9,.slice a9 n9 c9,.slice b9 m9 d9,.int .i64 lo9,.bool ls9,.int .i64 hi9,.bool hs9,.bool op9,.int .u8 k2,.slice a2 n2 c2,.slice b2 m2 d2,.int .i64 lo2,.bool ls2,.int .i64 hi2,.bool hs2,.bool op2] 28)).heap[w3.heap.size]? = some (.cells #[.int .u8 k9,.slice a9 n9 c9,.slice b9 m9 d9,.int .i64 lo9,.bool ls9,.int .i64 hi9,.bool hs9,.bool op9,.int .u8 k2,.slice a2 n2 c2,.slice b2 m2 d2,.int .i64 lo2,.bool ls2,.int .i64 hi2,.bool hs2,.bool op2] 28 (0,0)):=z06 rfl
       have hal : ∀ b,b < w3.heap.size → (w3.alloc (.cells #[.int .u8 k9,.slice a9 n9 c9,.slice b9 m9 d9,.int .i64 lo9,.bool ls9,.int .i64 hi9,.bool hs9,.bool op9,.int .u8 k2,.slice a2 n2 c2,.slice b2 m2 d2,.int .i64 lo2,.bool ls2,.int .i64 hi2,.bool hs2,.bool op2] 28)).heap[b]? = w3.heap[b]?:=fun b hb => Lib.alloc_old _ _ _ hb
       have hsz4 : (w3.alloc (.cells #[.int .u8 k9,.slice a9 n9 c9,.slice b9 m9 d9,.int .i64 lo9,.bool ls9,.int .i64 hi9,.bool hs9,.bool op9,.int .u8 k2,.slice a2 n2 c2,.slice b2 m2 d2,.int .i64 lo2,.bool ls2,.int .i64 hi2,.bool hs2,.bool op2] 28)).heap.size = w3.heap.size + 1:=by simp
       have hB1:=HB.out.1
       have hfx : XI (pC w.heap.size w.heap.size kv) (w3.alloc (.cells #[.int .u8 k9,.slice a9 n9 c9,.slice b9 m9 d9,.int .i64 lo9,.bool ls9,.int .i64 hi9,.bool hs9,.bool op9,.int .u8 k2,.slice a2 n2 c2,.slice b2 m2 d2,.int .i64 lo2,.bool ls2,.int .i64 hi2,.bool hs2,.bool op2] 28)) x' (.agg #[.int .u8 k9,.slice a9 n9 c9,.slice b9 m9 d9,.int .i64 lo9,.bool ls9,.int .i64 hi9,.bool hs9,.bool op9]):=by
        refine HFI.out.go ⟨?_,fun b hbz hpc => ⟨hpc,?_⟩⟩
        ·have:=HBT2.out.2.2.2.1; omega
        ·simp only [pC,Bool.and_eq_true,decide_eq_true_eq,bne_iff_ne,ne_eq] at hpc
         have:=HBT2.out.2.2.2.1
         exact (hal b (by omega)).trans ((HBT2.out.trans (Bt.trans (Bt.refl pb w2).drew HBB.out)).2.2.2.2 b hbz (by omega))
       have hfy : XI (pC w.heap.size w.heap.size kv) (w3.alloc (.cells #[.int .u8 k9,.slice a9 n9 c9,.slice b9 m9 d9,.int .i64 lo9,.bool ls9,.int .i64 hi9,.bool hs9,.bool op9,.int .u8 k2,.slice a2 n2 c2,.slice b2 m2 d2,.int .i64 lo2,.bool ls2,.int .i64 hi2,.bool hs2,.bool op2] 28)) y (.agg #[.int .u8 k2,.slice a2 n2 c2,.slice b2 m2 d2,.int .i64 lo2,.bool ls2,.int .i64 hi2,.bool hs2,.bool op2]):=by
        refine HF2.out.go ⟨by omega,fun b hbz hpn => ⟨?_,hal b hbz⟩⟩
        have hpn' : w2.heap.size ≤ b:=of_decide_eq_true (show decide (w2.heap.size ≤ b) = true from hpn)
        simp only [pC,Bool.and_eq_true,decide_eq_true_eq,bne_iff_ne,ne_eq]
        omega
       have hft:=XI.two hfx hfy 4 w3.heap.size 2 0 none (0,0) (by simp only [pC,Bool.and_eq_true,decide_eq_true_eq,bne_iff_ne,ne_eq]; omega) hg4
       refine ⟨⟨_,_,_,_,_,_,_,_,_,_,_,_,z0c hkv4 _ _ _ _ _ _ _ _ ,hft.go ⟨by rw [z0b]; exact Nat.le_refl _,fun b hbz hpc => ⟨hpc,z03 _ _ _ _ _ _ _ _ _ _ _ ?_⟩⟩⟩,(Same.alloc HS3.out _).set8 hle HB.out _ _ _ _ _ _ _ _ ,(z03 _ _ _ _ _ _ _ _ _ _ _ hkr).trans hkr4⟩
       simp only [pC,Bool.and_eq_true,decide_eq_true_eq,bne_iff_ne,ne_eq] at hpc
       exact hpc.2
      clear hkv4 hkr4 hkv3 hkr3
      refine wpAnyH_ready (rs:=[5]) (by kernel_rfl) (by simp) ?_
      refine AllReadyH.cons rfl (fun K hK => ?_) AllReadyH.nil
      go_simp
      refine hK.out _ _ trivial (fun _ => ?_)
      clear hK K
      try simp only [Act.put,List.setIfInBounds_toArray,List.set_cons_zero,List.set_cons_succ]
      refine wpAnyH_done (by kernel_rfl) ?_ _
      have HLEN : Hid ((z01 L stop nx2).length ≤ n0 ∧ nx' < nx2):=by
       have h1:=HSH.out _ _ _ HRY.out.symm
       rw [HR2.out,z0a,z0a] at h1
       have h2:=HNL.out
       rw [z0a] at h2
       have h3:=HLT.out
       have h4:=HS3.out.1.le
       rw [Hid,z0a]
       omega
      have HLEFT : Hid (z1d pb L.length (set8 (w3.alloc (.cells #[.int .u8 k9,.slice a9 n9 c9,.slice b9 m9 d9,.int .i64 lo9,.bool ls9,.int .i64 hi9,.bool hs9,.bool op9,.int .u8 k2,.slice a2 n2 c2,.slice b2 m2 d2,.int .i64 lo2,.bool ls2,.int .i64 hi2,.bool hs2,.bool op2] 28)) kv (.int .u8 4) (.slice none 0 0) (.slice (some ⟨w3.heap.size,0,none⟩) 2 2) (.int .i64 0) (.bool false) (.int .i64 0) (.bool false) (.bool false)) < z1d pb L.length wr):=by
       rw [Hid,HNEW.out.st.1.left,HST.out.1.left,if_pos rfl,if_pos rfl]
       have:=HLT.out
       have:=HLEN.out.2
       omega
      clear xd0 xd1 xd2 xd3 xd4 xd5 xd6 xd7 xf0 xf1 xf2 xf3 xf4 xf5 xf6 xf7
      go_wp2_with fail
      go_roundw
      case rel => exact .inl ⟨_,nx2,n0,HLEN.out.1,by rw [Hid,HSTEP.out,HR2.out],HNEW⟩
      case measure => exact HLEFT.out
  ·obtain ⟨⟨k9,a9,n9,c9,b9,m9,d9,lo9,ls9,hi9,hs9,op9,hkv1⟩,⟨nx1,dq1,hP1,hs1⟩,hkr1⟩:=HC.out
   have HM:=Lib.hid (z08 pb tb L stop nx1 dq1 c.1 c.2 ⟨#[59]⟩ hc0 wr hs1.1)
   have HS1:=Lib.hid hs1
   have HP1:=Lib.hid hP1
   have HKV:=Lib.hid hkv1
   have HKR:=Lib.hid hkr1
   have HC0:=Lib.hid hc0
   clear hkv1 hP1 hs1 hkr1 hc0
   go_wp2_with fail
   refine HM.out.mono ?_
   rintro en w2 ⟨rfl,hs2⟩
   have hkv2:=hs2.at HKV.out hkvp
   have hkr2:=hs2.at HKR.out (by have:=HB.out.1; omega)
   have HS2:=Lib.hid (RP.same HS1.out hs2)
   clear hs2
   have g0:=True.intro
   obtain ⟨xd0,xd1,xd2,xd3,xd4,xd5,xd6,xd7⟩:=cc8 hkv2
   obtain ⟨xe0,xe1,xe2,xe3,xe4,xe5,xe6,xe7,xf0,xf1,xf2,xf3,xf4,xf5,xf6,xf7⟩:=cf8 hkr2
   have HAT : Hid ((set8 w2 w.heap.size (.int .u8 k9) (.slice a9 n9 c9) (.slice b9 m9 d9) (.int .i64 lo9) (.bool ls9) (.int .i64 hi9) (.bool hs9) (.bool op9)).heap[w.heap.size]? = some (.cells #[.int .u8 k9,.slice a9 n9 c9,.slice b9 m9 d9,.int .i64 lo9,.bool ls9,.int .i64 hi9,.bool hs9,.bool op9] 28 (0,0))):=z0c hkr2 _ _ _ _ _ _ _ _ 
   have HOUT : Hid (OutRX pb tb L stop deep bad w (.error c) (.returned (.agg #[.int .u8 k9,.slice a9 n9 c9,.slice b9 m9 d9,.int .i64 lo9,.bool ls9,.int .i64 hi9,.bool hs9,.bool op9])) (set8 w2 w.heap.size (.int .u8 k9) (.slice a9 n9 c9) (.slice b9 m9 d9) (.int .i64 lo9) (.bool ls9) (.int .i64 hi9) (.bool hs9) (.bool op9))):=⟨HC0.out,_,_,_,_,_,_,_,_,_,_,_,_,nx1,dq1,rfl,HP1.out,HS2.out.set8 (Nat.le_refl _) HB.out _ _ _ _ _ _ _ _ ⟩
   clear hkv2 hkr2 g0
   go_wp2_with fail
   refine bodyPost_ret (results_cell_row rfl _ _ _ _ _ _ _ rfl HAT.out Tryz.underlying28 rfl (by kernel_rfl)) rfl ?_
   rw [HEQ.out]
   exact HOUT.out
theorem more172_err (pb tb : Nat) (L : List Tok) (stop : Int) (P : Nat → Int → Prop) (e b : Int) (he : e ≠ 0) (w : World) (hB : pb < w.heap.size ∧ (L = [] ∨ tb < w.heap.size))
 (hone : Calls Tryz.prog 185 #[.pointer (some ⟨pb,0,none⟩)] (w.alloc (.cells #[.int .u8 0,.slice none 0 0,.slice none 0 0,.int .i64 0,.bool false,.int .i64 0,.bool false,.bool false] 28)) (ErX pb tb L stop P e b (w.alloc (.cells #[.int .u8 0,.slice none 0 0,.slice none 0 0,.int .i64 0,.bool false,.int .i64 0,.bool false,.bool false] 28)))) :
 Calls Tryz.prog 172 #[.pointer (some ⟨pb,0,none⟩)] w (ErX pb tb L stop P e b w):=by
 have HO:=Lib.hid hone
 have HB:=Lib.hid hB
 have HE:=Lib.hid he
 clear hone hB he
 go_enter Tryz.func172,Tryz.ntmps172
 go_wp2_with fail
 refine HO.out.mono ?_
 rintro en w1 ⟨k8,a8,n8,c8,b8,m8,d8,lo8,ls8,hi8,hs8,op8,nx,d,rfl,hP,hs⟩
 obtain ⟨kv,hkv⟩ : ∃ kv,kv = w1.heap.size:=⟨_,rfl⟩
 have hz:=hs.size
 have hz0 : (w.alloc (.cells #[.int .u8 0,.slice none 0 0,.slice none 0 0,.int .i64 0,.bool false,.int .i64 0,.bool false,.bool false] 28)).heap.size = w.heap.size + 1:=by simp
 have hkvp : kv ≠ pb:=by have:=HB.out.1; omega
 have hkr : w.heap.size ≠ kv:=by omega
 have H0 : Hid (CeAX pb tb L stop P e b w.heap.size kv w (w1.alloc (.cells #[.int .u8 k8,.slice a8 n8 c8,.slice b8 m8 d8,.int .i64 lo8,.bool ls8,.int .i64 hi8,.bool hs8,.bool op8] 28))) :=
  ⟨⟨_,_,_,_,_,_,_,_,_,_,_,_,z06 hkv⟩,⟨nx,d,hP,Same.alloc ⟨hs.1,((Bt.refl pb w).alloc _).trans hs.2⟩ _⟩,z0d (hs.at (z06 rfl) (by have:=HB.out.1; omega))⟩
 clear hs hP HO hz hz0
 go_wp2_with fail
 rw [← hkv]
 clear hkv
 go_loopw [] (fun wr => Hid (CeAX pb tb L stop P e b w.heap.size kv w wr)) (fun _ => 0)
 case atStart => exact H0
 case round =>
 clear H0
 obtain ⟨⟨k9,a9,n9,c9,b9,m9,d9,lo9,ls9,hi9,hs9,op9,hkv1⟩,⟨nx1,dq1,hP1,hs1⟩,hkr1⟩:=hrel.out
 have HM:=Lib.hid (z08 pb tb L stop nx1 dq1 e b ⟨#[43]⟩ HE.out wr hs1.1)
 have HS1:=Lib.hid hs1
 have HP1:=Lib.hid hP1
 have HKV:=Lib.hid hkv1
 have HKR:=Lib.hid hkr1
 clear hkv1 hP1 hs1 hkr1 hrel
 go_wp2_with fail
 refine HM.out.mono ?_
 rintro en w2 ⟨rfl,hs2⟩
 have hkv2:=hs2.at HKV.out hkvp
 have hkr2:=hs2.at HKR.out (by have:=HB.out.1; omega)
 have HS2:=Lib.hid (RP.same HS1.out hs2)
 clear hs2
 have g0:=True.intro
 obtain ⟨xd0,xd1,xd2,xd3,xd4,xd5,xd6,xd7⟩:=cc8 hkv2
 obtain ⟨xe0,xe1,xe2,xe3,xe4,xe5,xe6,xe7,xf0,xf1,xf2,xf3,xf4,xf5,xf6,xf7⟩:=cf8 hkr2
 have HAT : Hid ((set8 w2 w.heap.size (.int .u8 k9) (.slice a9 n9 c9) (.slice b9 m9 d9) (.int .i64 lo9) (.bool ls9) (.int .i64 hi9) (.bool hs9) (.bool op9)).heap[w.heap.size]? = some (.cells #[.int .u8 k9,.slice a9 n9 c9,.slice b9 m9 d9,.int .i64 lo9,.bool ls9,.int .i64 hi9,.bool hs9,.bool op9] 28 (0,0))):=z0c hkr2 _ _ _ _ _ _ _ _ 
 have HOUT : Hid (ErX pb tb L stop P e b w (.returned (.agg #[.int .u8 k9,.slice a9 n9 c9,.slice b9 m9 d9,.int .i64 lo9,.bool ls9,.int .i64 hi9,.bool hs9,.bool op9])) (set8 w2 w.heap.size (.int .u8 k9) (.slice a9 n9 c9) (.slice b9 m9 d9) (.int .i64 lo9) (.bool ls9) (.int .i64 hi9) (.bool hs9) (.bool op9))):=⟨_,_,_,_,_,_,_,_,_,_,_,_,nx1,dq1,rfl,HP1.out,HS2.out.set8 (Nat.le_refl _) HB.out _ _ _ _ _ _ _ _ ⟩
 clear hkv2 hkr2 g0
 go_wp2_with fail
 refine bodyPost_ret (results_cell_row rfl _ _ _ _ _ _ _ rfl HAT.out Tryz.underlying28 rfl (by kernel_rfl)) rfl ?_
 exact HOUT.out
theorem more172_chn (pb tb : Nat) (L : List Tok) (stop : Int) (deep : Nat) (bad : Int) (one : List Tok → PRes X) (hne : ∀ l c,Ends l → one l = .error c → c.1 ≠ 0) (nx : Nat) (w : World) (h : RP pb tb w L stop nx deep 0 bad)
 (hone : ∀ w' nx',Bt pb w w' → RP pb tb w' L stop nx' deep 0 bad → Calls Tryz.prog 185 #[.pointer (some ⟨pb,0,none⟩)] w' (OutRX pb tb L stop deep bad w' (one (z01 L stop nx')))) :
 Calls Tryz.prog 172 #[.pointer (some ⟨pb,0,none⟩)] w (OutRX pb tb L stop deep bad w (z1y (one (z01 L stop nx)) fun x r => .ok (z2s r.length x r))):=by
 have hB:=h.base
 obtain ⟨W1,hW1⟩ : ∃ W1,W1 = w.alloc (.cells #[.int .u8 0,.slice none 0 0,.slice none 0 0,.int .i64 0,.bool false,.int .i64 0,.bool false,.bool false] 28):=⟨_,rfl⟩
 have hs1 : Same pb tb w W1 L stop nx deep 0 bad:=by rw [hW1]; exact h.self.alloc _
 have hr1 : W1.heap[w.heap.size]? = some (.cells #[.int .u8 0,.slice none 0 0,.slice none 0 0,.int .i64 0,.bool false,.int .i64 0,.bool false,.bool false] 28 (0,0)):=by rw [hW1]; exact z06 rfl
 have hz1 : W1.heap.size = w.heap.size + 1:=by rw [hW1]; simp
 have hH1:=hone W1 nx hs1.2 hs1.1
 cases q : one (z01 L stop nx) with
 | error c =>
  rw [q] at hH1
  change Calls Tryz.prog 172 _ w (OutRX pb tb L stop deep bad w (.error c))
  by_cases h0 : c.1 = 0
  ·exact absurd h0 (hne _ _ (z33 ..) q)
  ·rw [hW1] at hH1
   refine (more172_err pb tb L stop _ c.1 c.2 h0 w hB (hH1.mono fun _ _ h => h.2)).mono fun _ _ h => ⟨h0,h⟩
 | ok xr =>
  obtain ⟨x,r⟩:=xr
  rw [q] at hH1
  obtain ⟨RES,hRES⟩ : ∃ RES,RES = (z1y (Except.ok (x,r)) fun x r => .ok (z2s r.length x r)):=⟨_,rfl⟩
  have HR : Hid (RES = .ok (z2s r.length x r)):=by rw [Hid,hRES]; rfl
  rw [← hRES]
  have HO:=Lib.hid hH1
  have HS1:=Lib.hid hs1
  have HR1:=Lib.hid hr1
  have HB:=Lib.hid hB
  have HON:=Lib.hid hone
  have HZ1:=Lib.hid hz1
  have hln:=h.len
  clear q hH1 hs1 hr1 hB hone hz1 hRES h
  rw [hW1] at HO
  go_enter Tryz.func172,Tryz.ntmps172
  go_wp2_with fail
  refine HO.out.mono ?_
  rintro en w1 ho
  obtain ⟨k1,a1,n1,c1,b1,m1,d1,lo1,ls1,hi1,hs1,op1,nx1,rfl,hf,hr,hs⟩:=OutRX.ok ho
  rw [← hW1] at hf hs
  obtain ⟨kv,hkv⟩ : ∃ kv,kv = w1.heap.size:=⟨_,rfl⟩
  have hz:=hs.size
  have hkvp : kv ≠ pb:=by have:=HB.out.1; have:=HZ1.out; omega
  have hkr : w.heap.size ≠ kv:=by have:=HZ1.out; omega
  have hle : w.heap.size ≤ kv:=by have:=HZ1.out; omega
  have H0 : Hid (ChAX pb tb L stop deep bad w.heap.size kv w (w1.alloc (.cells #[.int .u8 k1,.slice a1 n1 c1,.slice b1 m1 d1,.int .i64 lo1,.bool ls1,.int .i64 hi1,.bool hs1,.bool op1] 28)) x nx1):=by
   refine ⟨⟨_,_,_,_,_,_,_,_,_,_,_,_,z06 hkv,hf.go ⟨by simp,fun b hb' hpn => ⟨?_,Lib.alloc_old _ _ _ hb'⟩⟩⟩,Same.alloc (RP.same HS1.out hs) _,z0d (hs.at HR1.out (by have:=HB.out.1; omega))⟩
   have : W1.heap.size ≤ b:=by simpa [pN] using hpn
   have:=HZ1.out
   simp only [pC,Bool.and_eq_true,decide_eq_true_eq,bne_iff_ne,ne_eq]
   omega
  subst hr
  clear ho hf hs HO HS1 HR1 hW1 hz
  go_wp2_with fail
  rw [← hkv]
  clear hkv
  go_loopw [] (fun wr => (∃ (x' : X) (nx' n' : Nat),(z01 L stop nx').length ≤ n' ∧ Hid (RES = Except.ok (z2s n' x' (z01 L stop nx'))) ∧ Hid (ChAX pb tb L stop deep bad w.heap.size kv w wr x' nx')) ∨ (∃ c : Int × Int,c.1 ≠ 0 ∧ Hid (RES = .error c) ∧ Hid (CeAX pb tb L stop (fun _ d => (deep : Int) ≤ d ∧ d ≤ deep + 1) c.1 c.2 w.heap.size kv w wr))) (fun wr => z1d pb L.length wr)
  case atStart => exact .inl ⟨x,nx1,_,Nat.le_refl _,HR,H0⟩
  case round =>
  clear H0
  rcases hrel with ⟨x',nx',n',hn',HEQ,HC⟩ | ⟨c,hc0,HEQ,HC⟩
  ·obtain ⟨⟨k9,a9,n9,c9,b9,m9,d9,lo9,ls9,hi9,hs9,op9,hkvb,hfi⟩,hst,hkr1⟩:=HC.out
   have HM:=Lib.hid (z0e pb tb L stop nx' deep bad ⟨#[43]⟩ (by decide) wr hst.1)
   have HKV:=Lib.hid hkvb
   have HFI:=Lib.hid hfi
   have HST:=Lib.hid hst
   have HKR:=Lib.hid hkr1
   clear hkvb hfi hst hkr1
   cases qi : isT [43] (z01 L stop nx') with
   | false =>
    rw [show (⟨#[43]⟩ : ByteArray).data.toList = [43] from rfl,qi] at HM
    simp only [Bool.false_eq_true,if_false] at HM
    have HFIN : Hid (RES = .ok (x',z01 L stop nx')):=by
     rw [Hid,HEQ.out]
     cases n' with
     | zero => rw [z0a] at hn'; omega
     | succ n' => rw [z2s,qi]; simp
    clear qi hn'
    go_wp2_with fail
    refine HM.out.mono ?_
    rintro en w2 ⟨rfl,hs2⟩
    have hkv2:=hs2.at HKV.out hkvp
    have hkr2:=hs2.at HKR.out (by have:=HB.out.1; omega)
    have HS2:=Lib.hid (RP.same HST.out hs2)
    have HBT2:=Lib.hid hs2.2
    clear hs2
    have g0:=True.intro
    obtain ⟨xd0,xd1,xd2,xd3,xd4,xd5,xd6,xd7⟩:=cc8 hkv2
    obtain ⟨xe0,xe1,xe2,xe3,xe4,xe5,xe6,xe7,xf0,xf1,xf2,xf3,xf4,xf5,xf6,xf7⟩:=cf8 hkr2
    have HAT : Hid ((set8 w2 w.heap.size (.int .u8 k9) (.slice a9 n9 c9) (.slice b9 m9 d9) (.int .i64 lo9) (.bool ls9) (.int .i64 hi9) (.bool hs9) (.bool op9)).heap[w.heap.size]? = some (.cells #[.int .u8 k9,.slice a9 n9 c9,.slice b9 m9 d9,.int .i64 lo9,.bool ls9,.int .i64 hi9,.bool hs9,.bool op9] 28 (0,0))):=z0c hkr2 _ _ _ _ _ _ _ _ 
    have HOUT : Hid (OutRX pb tb L stop deep bad w (.ok (x',z01 L stop nx')) (.returned (.agg #[.int .u8 k9,.slice a9 n9 c9,.slice b9 m9 d9,.int .i64 lo9,.bool ls9,.int .i64 hi9,.bool hs9,.bool op9])) (set8 w2 w.heap.size (.int .u8 k9) (.slice a9 n9 c9) (.slice b9 m9 d9) (.int .i64 lo9) (.bool ls9) (.int .i64 hi9) (.bool hs9) (.bool op9))):=by
     refine ⟨_,nx',rfl,?_,rfl,HS2.out.set8 (Nat.le_refl _) HB.out _ _ _ _ _ _ _ _ ⟩
     refine HFI.out.go ⟨?_,fun b hbz hpc => ?_⟩
     ·rw [z0b]; exact HBT2.out.2.2.2.1
     ·simp only [pC,Bool.and_eq_true,decide_eq_true_eq,bne_iff_ne,ne_eq] at hpc
      have:=HB.out.1
      exact ⟨by simpa [pN] using hpc.1.1,(z03 _ _ _ _ _ _ _ _ _ _ _ hpc.1.2).trans (HBT2.out.2.2.2.2 b hbz (by omega))⟩
    clear hkv2 hkr2 g0
    go_wp2_with fail
    refine bodyPost_ret (results_cell_row rfl _ _ _ _ _ _ _ rfl HAT.out Tryz.underlying28 rfl (by kernel_rfl)) rfl ?_
    rw [HFIN.out]
    exact HOUT.out
   | true =>
    rw [show (⟨#[43]⟩ : ByteArray).data.toList = [43] from rfl,qi] at HM
    simp only [if_true] at HM
    have hlt:=z0z (s:=[43]) (by decide) qi
    obtain ⟨n0,rfl⟩ : ∃ n0,n' = n0 + 1:=⟨n' - 1,by rw [z0a] at hn'; omega⟩
    have HSTEP : Hid (RES = .ok (z2s n0 (.mk 5 [] [x'] noSpan) (z01 L stop (nx' + 1)))):=by
     rw [Hid,HEQ.out,← z0p hlt,z2s,qi]; simp
    have HLT:=Lib.hid hlt
    have HNL:=Lib.hid hn'
    clear qi hlt hn'
    go_wp2_with fail
    refine HM.out.mono ?_
    rintro en w2 ⟨rfl,hs2⟩
    have hkv2:=hs2.at HKV.out hkvp
    have hkr2:=hs2.at HKR.out (by have:=HB.out.1; omega)
    have HS2:=Lib.hid (RP.same HST.out hs2)
    have HBT2:=Lib.hid hs2.2
    clear hs2
    obtain ⟨xd0,xd1,xd2,xd3,xd4,xd5,xd6,xd7,xf0,xf1,xf2,xf3,xf4,xf5,xf6,xf7⟩:=cf8 hkv2
    have HNEW : Hid (ChAX pb tb L stop deep bad w.heap.size kv w (((set8 w2 kv (.int .u8 5) (.slice none 0 0) (.slice (some ⟨w2.heap.size,0,none⟩) 1 1) (.int .i64 0) (.bool false) (.int .i64 0) (.bool false) (.bool false))).alloc (.cells #[.int .u8 k9,.slice a9 n9 c9,.slice b9 m9 d9,.int .i64 lo9,.bool ls9,.int .i64 hi9,.bool hs9,.bool op9] 28)) (.mk 5 [] [x'] noSpan) (nx' + 1)):=by
     have hz2:=HS2.out.size
     have hkvl:=(Array.getElem?_eq_some_iff.1 hkv2).1
     have hg4 : ((set8 w2 kv (.int .u8 5) (.slice none 0 0) (.slice (some ⟨w2.heap.size,0,none⟩) 1 1) (.int .i64 0) (.bool false) (.int .i64 0) (.bool false) (.bool false)).alloc (.cells #[.int .u8 k9,.slice a9 n9 c9,.slice b9 m9 d9,.int .i64 lo9,.bool ls9,.int .i64 hi9,.bool hs9,.bool op9] 28)).heap[w2.heap.size]? = some (.cells #[.int .u8 k9,.slice a9 n9 c9,.slice b9 m9 d9,.int .i64 lo9,.bool ls9,.int .i64 hi9,.bool hs9,.bool op9] 28 (0,0)):=z06 (by rw [z0b])
     have hal : ∀ b,b < w2.heap.size → b ≠ kv → ((set8 w2 kv (.int .u8 5) (.slice none 0 0) (.slice (some ⟨w2.heap.size,0,none⟩) 1 1) (.int .i64 0) (.bool false) (.int .i64 0) (.bool false) (.bool false)).alloc (.cells #[.int .u8 k9,.slice a9 n9 c9,.slice b9 m9 d9,.int .i64 lo9,.bool ls9,.int .i64 hi9,.bool hs9,.bool op9] 28)).heap[b]? = w2.heap[b]?:=fun b hb hn => (Lib.alloc_old _ _ _ (by rw [z0b]; exact hb)).trans (z03 _ _ _ _ _ _ _ _ _ _ _ hn)
     have hsz4 : ((set8 w2 kv (.int .u8 5) (.slice none 0 0) (.slice (some ⟨w2.heap.size,0,none⟩) 1 1) (.int .i64 0) (.bool false) (.int .i64 0) (.bool false) (.bool false)).alloc (.cells #[.int .u8 k9,.slice a9 n9 c9,.slice b9 m9 d9,.int .i64 lo9,.bool ls9,.int .i64 hi9,.bool hs9,.bool op9] 28)).heap.size = w2.heap.size + 1:=by simp [z0b]
     have hB1:=HB.out.1
     have hfx : XI (pC w.heap.size w.heap.size kv) ((set8 w2 kv (.int .u8 5) (.slice none 0 0) (.slice (some ⟨w2.heap.size,0,none⟩) 1 1) (.int .i64 0) (.bool false) (.int .i64 0) (.bool false) (.bool false)).alloc (.cells #[.int .u8 k9,.slice a9 n9 c9,.slice b9 m9 d9,.int .i64 lo9,.bool ls9,.int .i64 hi9,.bool hs9,.bool op9] 28)) x' (.agg #[.int .u8 k9,.slice a9 n9 c9,.slice b9 m9 d9,.int .i64 lo9,.bool ls9,.int .i64 hi9,.bool hs9,.bool op9]):=by
      refine HFI.out.go ⟨?_,fun b hbz hpc => ⟨hpc,?_⟩⟩
      ·have:=HBT2.out.2.2.2.1; omega
      ·simp only [pC,Bool.and_eq_true,decide_eq_true_eq,bne_iff_ne,ne_eq] at hpc
       have:=HBT2.out.2.2.2.1
       exact (hal b (by omega) hpc.2).trans (HBT2.out.2.2.2.2 b hbz (by omega))
     have hft:=XI.one hfx 5 0 0 false false false w2.heap.size 1 0 none (0,0) (by simp only [pC,Bool.and_eq_true,decide_eq_true_eq,bne_iff_ne,ne_eq]; omega) hg4
     exact ⟨⟨_,_,_,_,_,_,_,_,_,_,_,_,z0d (z0c hkv2 _ _ _ _ _ _ _ _ ),hft⟩,(HS2.out.set8 hle HB.out _ _ _ _ _ _ _ _ ).alloc _,z0d ((z03 _ _ _ _ _ _ _ _ _ _ _ hkr).trans hkr2)⟩
    have HLEFT : Hid (z1d pb L.length ((set8 w2 kv (.int .u8 5) (.slice none 0 0) (.slice (some ⟨w2.heap.size,0,none⟩) 1 1) (.int .i64 0) (.bool false) (.int .i64 0) (.bool false) (.bool false)).alloc (.cells #[.int .u8 k9,.slice a9 n9 c9,.slice b9 m9 d9,.int .i64 lo9,.bool ls9,.int .i64 hi9,.bool hs9,.bool op9] 28)) < z1d pb L.length wr):=by
     rw [Hid,HNEW.out.st.1.left,HST.out.1.left,if_pos rfl,if_pos rfl]
     have:=HLT.out
     omega
    have HLEN : Hid ((z01 L stop (nx' + 1)).length ≤ n0):=by
     have h2:=HNL.out
     rw [z0a] at h2
     have h3:=HLT.out
     rw [Hid,z0a]
     omega
    have hltz:=(Array.getElem?_eq_some_iff.1 hkv2).1
    clear hkv2 hkr2
    go_wp2_with fail
    go_roundw
    case rel => exact .inl ⟨_,nx' + 1,n0,HLEN.out,HSTEP,HNEW⟩
    case measure => exact HLEFT.out
  ·obtain ⟨⟨k9,a9,n9,c9,b9,m9,d9,lo9,ls9,hi9,hs9,op9,hkv1⟩,⟨nx1,dq1,hP1,hs1⟩,hkr1⟩:=HC.out
   have HM:=Lib.hid (z08 pb tb L stop nx1 dq1 c.1 c.2 ⟨#[43]⟩ hc0 wr hs1.1)
   have HS1:=Lib.hid hs1
   have HP1:=Lib.hid hP1
   have HKV:=Lib.hid hkv1
   have HKR:=Lib.hid hkr1
   have HC0:=Lib.hid hc0
   clear hkv1 hP1 hs1 hkr1 hc0
   go_wp2_with fail
   refine HM.out.mono ?_
   rintro en w2 ⟨rfl,hs2⟩
   have hkv2:=hs2.at HKV.out hkvp
   have hkr2:=hs2.at HKR.out (by have:=HB.out.1; omega)
   have HS2:=Lib.hid (RP.same HS1.out hs2)
   clear hs2
   have g0:=True.intro
   obtain ⟨xd0,xd1,xd2,xd3,xd4,xd5,xd6,xd7⟩:=cc8 hkv2
   obtain ⟨xe0,xe1,xe2,xe3,xe4,xe5,xe6,xe7,xf0,xf1,xf2,xf3,xf4,xf5,xf6,xf7⟩:=cf8 hkr2
   have HAT : Hid ((set8 w2 w.heap.size (.int .u8 k9) (.slice a9 n9 c9) (.slice b9 m9 d9) (.int .i64 lo9) (.bool ls9) (.int .i64 hi9) (.bool hs9) (.bool op9)).heap[w.heap.size]? = some (.cells #[.int .u8 k9,.slice a9 n9 c9,.slice b9 m9 d9,.int .i64 lo9,.bool ls9,.int .i64 hi9,.bool hs9,.bool op9] 28 (0,0))):=z0c hkr2 _ _ _ _ _ _ _ _ 
   have HOUT : Hid (OutRX pb tb L stop deep bad w (.error c) (.returned (.agg #[.int .u8 k9,.slice a9 n9 c9,.slice b9 m9 d9,.int .i64 lo9,.bool ls9,.int .i64 hi9,.bool hs9,.bool op9])) (set8 w2 w.heap.size (.int .u8 k9) (.slice a9 n9 c9) (.slice b9 m9 d9) (.int .i64 lo9) (.bool ls9) (.int .i64 hi9) (.bool hs9) (.bool op9))):=⟨HC0.out,_,_,_,_,_,_,_,_,_,_,_,_,nx1,dq1,rfl,HP1.out,HS2.out.set8 (Nat.le_refl _) HB.out _ _ _ _ _ _ _ _ ⟩
   clear hkv2 hkr2 g0
   go_wp2_with fail
   refine bodyPost_ret (results_cell_row rfl _ _ _ _ _ _ _ rfl HAT.out Tryz.underlying28 rfl (by kernel_rfl)) rfl ?_
   rw [HEQ.out]
   exact HOUT.out
end Go.Proofs.YtpgdplmndnopbaaGreatDoor
