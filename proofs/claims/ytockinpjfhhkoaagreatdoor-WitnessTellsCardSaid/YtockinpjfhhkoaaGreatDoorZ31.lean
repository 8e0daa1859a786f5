/- atoms.may walked; what atoms.Next answers. -/
import Derived.Test.YtockinpjfhhkoaaGreatDoorZ05
import Derived.Deep.RegionHeld
import Derived.Deep.Cut
import Derived.Test.YtockinpjfhhkoaaGreatDoorZ22
import Derived.Test.YtockinpjfhhkoaaGreatDoorZ03
import Derived.Test.YtockinpjfhhkoaaGreatDoorZ30
import Derived.Test.YtockinpjfhhkoaaGreatDoorZ02
import Derived.Test.YtockinpjfhhkoaaGreatDoorZ28
set_option maxRecDepth 100000
set_option maxHeartbeats 16000000
open List renaming getElem?_cons_zero → J7, getElem?_cons_succ → J8, getElem?_toArray → J9
open Go.Lib renaming cell_of_heap → Jc, hid → Jh
namespace Go.Proofs.YtockinpjfhhkoaaGreatDoor
open Go.RowKit
open Go.RowKit
open Go.RowKit
theorem z2t (n p : Int) (w : World) (hp : 1 ≤ p) (hp2 : p ≤ 1048576) (hn : -9223372036854775808 ≤ n) (hn2 : n ≤ 9223372036854775807) :
 Calls Tryz.prog 110 #[.int .i64 n,.int .i64 p] w fun e w' => e = .returned (.int .i64 (n / p)) ∧ w' = w:=by
 obtain ⟨T1,T2⟩:=z2q (n:=n) (p:=p) (by omega)
 obtain ⟨d1,d2,d3,d4⟩:=div_in64 hp hn hn2
 have hneg : n.tmod p < 0 → n / p < 0:=fun h => by
  have h1 : n < 0:=by
   rcases Int.lt_or_le n 0 with h2 | h2
   ·exact h2
   ·have:=Int.tmod_nonneg p h2; omega
  exact Int.ediv_neg_of_neg_of_pos h1 (by omega)
 obtain ⟨q,hq⟩ : ∃ q,n.tdiv p = q:=⟨_,rfl⟩
 obtain ⟨r,hr⟩ : ∃ r,n.tmod p = r:=⟨_,rfl⟩
 have hrb : -1048576 < r ∧ r < 1048576:=by
  have h1:=Int.tmod_lt_of_pos n (show 0 < p by omega)
  have h2:=Int.lt_tmod_of_pos n (show 0 < p by omega)
  omega
 have hw3 : IntKind.i64.wrap r = r:=IntWalk.i64_in _ (by omega)
 have hw3' : wrap64 r = r:=IntWalk.wrap64_in _ (by omega)
 rw [hq,hr] at T1 T2
 rw [hr] at hneg
 by_cases h0 : r < 0
 ·obtain ⟨e1,e2⟩:=T2 h0
  have hn1:=hneg h0
  rw [← e1] at d1 d2 hn1
  rw [← e1]
  have hw1 : wrap64 q = q:=IntWalk.wrap64_in q ⟨by omega,by omega⟩
  have hw2 : wrap64 (q - 1) = q - 1:=IntWalk.wrap64_in _ ⟨by omega,by omega⟩
  have hw4 : IntKind.i64.wrap q = q:=IntWalk.i64_in q ⟨by omega,by omega⟩
  have hw5 : IntKind.i64.wrap (q - 1) = q - 1:=IntWalk.i64_in _ ⟨by omega,by omega⟩
  have hd : decide (r < 0) = true:=by simpa using h0
  have hpz : (p == 0) = false:=by simp; omega
  clear T1 T2 e1 e2 hneg hn1 d1 d2 d3 d4 hrb
  go_enter Tryz.func110,Tryz.ntmps110
  go_wp2_with fail
  all_goals go_ret
  all_goals exact ⟨rfl,rfl⟩
 ·obtain ⟨e1,e2⟩:=T1 (by omega)
  rw [← e1] at d1 d2
  rw [← e1]
  have hw1 : wrap64 q = q:=IntWalk.wrap64_in q ⟨by omega,by omega⟩
  have hw4 : IntKind.i64.wrap q = q:=IntWalk.i64_in q ⟨by omega,by omega⟩
  have hd : decide (r < 0) = false:=by simpa using h0
  have hpz : (p == 0) = false:=by simp; omega
  clear T1 T2 e1 e2 d1 d2 d3 d4 hneg hrb
  go_enter Tryz.func110,Tryz.ntmps110
  go_wp2_with fail
  all_goals go_ret
  all_goals exact ⟨rfl,rfl⟩
theorem z1t (n p : Int) (w : World) (hp : 1 ≤ p) (hp2 : p ≤ 1048576) :
 Calls Tryz.prog 111 #[.int .i64 n,.int .i64 p] w fun e w' => e = .returned (.int .i64 (n % p)) ∧ w' = w:=by
 obtain ⟨T1,T2⟩:=z2q (n:=n) (p:=p) (by omega)
 have d3:=Int.emod_nonneg n (show p ≠ 0 by omega)
 have d4:=Int.emod_lt_of_pos n (show 0 < p by omega)
 obtain ⟨q,hq⟩ : ∃ q,n.tdiv p = q:=⟨_,rfl⟩
 obtain ⟨r,hr⟩ : ∃ r,n.tmod p = r:=⟨_,rfl⟩
 have hrb : -1048576 < r ∧ r < 1048576:=by
  have h1:=Int.tmod_lt_of_pos n (show 0 < p by omega)
  have h2:=Int.lt_tmod_of_pos n (show 0 < p by omega)
  omega
 have hw3 : IntKind.i64.wrap r = r:=IntWalk.i64_in _ (by omega)
 have hw3' : wrap64 r = r:=IntWalk.wrap64_in _ (by omega)
 rw [hq,hr] at T1 T2
 have hpz : (p == 0) = false:=by simp; omega
 by_cases h0 : r < 0
 ·obtain ⟨e1,e2⟩:=T2 h0
  rw [← e2] at d3 d4
  rw [← e2]
  have hw1 : wrap64 (r + p) = r + p:=IntWalk.wrap64_in _ ⟨by omega,by omega⟩
  have hw2 : IntKind.i64.wrap (r + p) = r + p:=IntWalk.i64_in _ ⟨by omega,by omega⟩
  have hd : decide (r < 0) = true:=by simpa using h0
  clear T1 T2 e1 e2 d3 d4 hrb hq
  go_enter Tryz.func111,Tryz.ntmps111
  go_wp2_with fail
  all_goals go_ret
  all_goals exact ⟨rfl,rfl⟩
 ·obtain ⟨e1,e2⟩:=T1 (by omega)
  rw [← e2]
  have hd : decide (r < 0) = false:=by simpa using h0
  clear T1 T2 e1 e2 d3 d4 hrb hq
  go_enter Tryz.func111,Tryz.ntmps111
  go_wp2_with fail
  all_goals go_ret
  all_goals exact ⟨rfl,rfl⟩
theorem two_floor (b : Int) : (b.tmod 2 = 0 → b.tdiv 2 = b / 2 ∧ b % 2 = 0) ∧ (b.tmod 2 ≠ 0 → (b - 1).tdiv 2 = b / 2 ∧ b % 2 = 1):=by
 obtain ⟨T1,T2⟩:=z2q (n:=b) (p:=2) (by omega)
 obtain ⟨U1,U2⟩:=z2q (n:=b - 1) (p:=2) (by omega)
 have h1:=Int.tmod_lt_of_pos b (show (0 : Int) < 2 by omega)
 have h2:=Int.lt_tmod_of_pos b (show (0 : Int) < 2 by omega)
 have h3:=Int.tmod_lt_of_pos (b - 1) (show (0 : Int) < 2 by omega)
 have h4:=Int.lt_tmod_of_pos (b - 1) (show (0 : Int) < 2 by omega)
 refine ⟨fun h => ?_,fun h => ?_⟩
 ·obtain ⟨e1,e2⟩:=T1 (by omega)
  exact ⟨e1,by omega⟩
 ·have hb : b % 2 = 1:=by
   rcases Int.lt_or_le (b.tmod 2) 0 with h5 | h5
   ·obtain ⟨_,e2⟩:=T2 h5; omega
   ·obtain ⟨_,e2⟩:=T1 h5; omega
  refine ⟨?_,hb⟩
  rcases Int.lt_or_le ((b - 1).tmod 2) 0 with h5 | h5
  ·obtain ⟨_,e2⟩:=U2 h5; omega
  ·obtain ⟨e1,_⟩:=U1 h5; omega
theorem number213_any (b : Int) (w : World) (h : -9223372036854775807 ≤ b) (h' : b ≤ 9223372036854775807) :
 Calls Tryz.prog 213 #[.int .i64 b] w fun e w' => e = .returned (.int .i64 (b / 2)) ∧ w' = w:=by
 obtain ⟨T1,T2⟩:=two_floor b
 have h3:=Int.tmod_lt_of_pos b (show (0 : Int) < 2 by omega)
 have h4:=Int.lt_tmod_of_pos b (show (0 : Int) < 2 by omega)
 obtain ⟨r,hr⟩ : ∃ r,b.tmod 2 = r:=⟨_,rfl⟩
 rw [hr] at T1 T2 h3 h4
 have hw3 : IntKind.i64.wrap r = r:=IntWalk.i64_in _ (by omega)
 have hw3' : wrap64 r = r:=IntWalk.wrap64_in _ (by omega)
 obtain ⟨q,hq⟩ : ∃ q,b / 2 = q:=⟨_,rfl⟩
 have hqb : -4611686018427387904 ≤ q ∧ q ≤ 4611686018427387904:=by omega
 have hw4 : IntKind.i64.wrap q = q:=IntWalk.i64_in _ (by omega)
 have hw4' : wrap64 q = q:=IntWalk.wrap64_in _ (by omega)
 have hw5 : IntKind.i64.wrap (b - 1) = b - 1:=IntWalk.i64_in _ (by omega)
 have hw5' : wrap64 (b - 1) = b - 1:=IntWalk.wrap64_in _ (by omega)
 rw [hq] at T1 T2 ⊢
 by_cases h0 : r = 0
 ·obtain ⟨e1,_⟩:=T1 h0
  have hd : (r != 0) = false:=by simpa using h0
  clear T1 T2 h h' h3 h4 hq hqb h0
  go_enter Tryz.func213,Tryz.ntmps213
  go_wp2_with fail
  all_goals go_ret
  all_goals exact ⟨rfl,rfl⟩
 ·obtain ⟨e1,_⟩:=T2 h0
  have hd : (r != 0) = true:=by simpa using h0
  clear T1 T2 h h' h3 h4 hq hqb h0
  go_enter Tryz.func213,Tryz.ntmps213
  go_wp2_with fail
  all_goals go_ret
  all_goals exact ⟨rfl,rfl⟩
theorem strict214_any (b : Int) (w : World) :
 Calls Tryz.prog 214 #[.int .i64 b] w fun e w' => e = .returned (.bool (b % 2 == 0)) ∧ w' = w:=by
 obtain ⟨T1,T2⟩:=two_floor b
 have h3:=Int.tmod_lt_of_pos b (show (0 : Int) < 2 by omega)
 have h4:=Int.lt_tmod_of_pos b (show (0 : Int) < 2 by omega)
 obtain ⟨r,hr⟩ : ∃ r,b.tmod 2 = r:=⟨_,rfl⟩
 rw [hr] at T1 T2 h3 h4
 have hw3 : IntKind.i64.wrap r = r:=IntWalk.i64_in _ (by omega)
 have hw3' : wrap64 r = r:=IntWalk.wrap64_in _ (by omega)
 have HE : Hid ((b % 2 == 0) = (r == 0)):=by
  rw [Hid]
  by_cases h0 : r = 0
  ·rw [(T1 h0).2,h0]
  ·rw [(T2 h0).2]; simp [h0]
 clear T1 T2 h3 h4
 go_enter Tryz.func214,Tryz.ntmps214
 go_wp2_with fail
 all_goals go_ret
 all_goals exact ⟨by rw [HE.out]; rfl,rfl⟩
open Go.RowKit
open Go.RowKit
open Go.RowKit
theorem z3o (names : List ByteArray) (n : Nat) (k : Int) (s : ByteArray) (of : List (FT n)) (on : Int) : z0b names (n + 1) (k,s,of) on =
 if k = 3 then bits .and .i64 on (bitV names s) != 0
 else if k = 4 then !((of.map fun x => z0b names n x on).getD 0 false)
 else if k = 5 then (of.map fun x => z0b names n x on).getD 0 false && (of.map fun x => z0b names n x on).getD 1 false
 else if k = 6 then (of.map fun x => z0b names n x on).getD 0 false || (of.map fun x => z0b names n x on).getD 1 false
 else k == 1:=rfl
theorem on92_leaf (names : List ByteArray) (nv : Value) (hl8 : names.length ≤ 8) (on : Int) (h0 : 0 ≤ on) (h1 : on ≤ 255) (n : Nat) (k : Int) (hk : k = 1 ∨ k = 2 ∨ k = 3) (s : ByteArray) (of : List (FT n)) (fa : Option Addr) (fl fc : Nat) (w : World) (hn : NRep w w.heap.size nv names) (hd : z0g names k s of.length = true) :
 Calls Tryz.prog 92 #[nv,.agg #[.int .u8 k,.string s,.slice fa fl fc],.int .u8 on] w fun e w' => e = .returned (.bool (z0b names (n + 1) (k,s,of) on)) ∧ Below w.heap.size w w':=by
 have hb1 : Below w.heap.size w (w.alloc (.cells #[.int .u8 k,.string s,.slice fa fl fc] 25)):=z0c _ _
 have HB1:=Jh hb1
 have HAT:=Jh (at96_any names nv s _ (hn.up hb1 hb1.size))
 rcases hk with rfl | rfl | rfl
 ·have HQ : Hid (z0b names (n + 1) (1,s,of) on = true):=rfl
  clear hb1 hn hd
  go_enter Tryz.func92,Tryz.ntmps92
  go_wp2_with fail
  all_goals go_ret
  all_goals exact ⟨by rw [HQ.out]; rfl,HB1.out⟩
 ·have HQ : Hid (z0b names (n + 1) (2,s,of) on = false):=rfl
  clear hb1 hn hd
  go_enter Tryz.func92,Tryz.ntmps92
  go_wp2_with fail
  all_goals go_ret
  all_goals exact ⟨by rw [HQ.out]; rfl,HB1.out⟩
 ·have hin : inN s names = true:=by unfold z0g at hd; simpa using hd
  obtain ⟨i1,i2⟩:=idx_lt hin
  obtain ⟨d,hd2⟩ : ∃ d : Nat,idxN s names = (d : Int):=⟨(idxN s names).toNat,by omega⟩
  have hd8 : d < 8:=by omega
  have HQ : Hid (z0b names (n + 1) (3,s,of) on = (bits .and .u8 (on / 2 ^ d) 1 == 1)):=by
   rw [Hid,z3o,if_pos rfl,← bit_same' h0 h1 hd8]
   unfold bitV
   rw [hd2,Int.toNat_natCast]
  rw [hd2] at HAT
  have hdi : (d : Int) < 8:=by omega
  have hdi0 : (0 : Int) ≤ (d : Int):=by omega
  clear hb1 hn hd hin i1 i2 hd2
  go_enter Tryz.func92,Tryz.ntmps92
  go_wp2_with fail
  refine HAT.out.mono ?_
  rintro e w2 ⟨rfl,rfl⟩
  go_wp2_with fail
  all_goals go_ret
  all_goals exact ⟨by rw [HQ.out]; rfl,HB1.out⟩
theorem on92_any (names : List ByteArray) (nv : Value) (hl8 : names.length ≤ 8) (on : Int) (h0 : 0 ≤ on) (h1 : on ≤ 255) (w0 : World) (hn : NRep w0 w0.heap.size nv names) (n : Nat) : ∀ (t : FT n) (v : Value) (w : World),FRep w w.heap.size n t v → Below w0.heap.size w0 w → allF z04 n t = true → allF (z0g names) n t = true →
 Calls Tryz.prog 92 #[nv,v,.int .u8 on] w fun e w' => e = .returned (.bool (z0b names n t on)) ∧ Below w.heap.size w w':=by
 induction n with
 | zero => intro t v w h; exact h.elim
 | succ n ih =>
  intro t v w h hbw hR' hD
  obtain ⟨k,s,of⟩:=t
  obtain ⟨a,c,rfl,hR⟩:=h
  have hR : FRow w w.heap.size n a of:=hR
  have hR2 : (z04 k s of.length && of.all (allF z04 n)) = true:=hR'
  have hD2 : (z0g names k s of.length && of.all (allF (z0g names) n)) = true:=hD
  rw [Bool.and_eq_true,List.all_eq_true] at hR2 hD2
  obtain ⟨hRk,hRa⟩:=hR2
  obtain ⟨hd1,hDa⟩:=hD2
  unfold z04 at hRk
  simp only [Bool.and_eq_true,decide_eq_true_eq] at hRk
  obtain ⟨⟨⟨hk1,hk2⟩,hRl⟩,_⟩:=hRk
  clear hR' hD
  dsimp only at hR ⊢
  have hk : (k = 1 ∨ k = 2 ∨ k = 3) ∨ k = 4 ∨ k = 5 ∨ k = 6:=by omega
  rcases hk with hk | hk
  ·exact on92_leaf names nv hl8 on h0 h1 n k hk s of a of.length c w (hn.up hbw hbw.size) hd1
  ·clear hk1 hk2 h0 h1
   rcases hk with rfl | rfl | rfl
   ·-- one part
    have hl1 : of.length = 1:=by have : (of.length == 1) = true:=hRl; simpa using this
    obtain ⟨fa0,off,ka,sa,aa,la,ca,e0,hb0,p0,p1,p2,hr0⟩:=FRow.at (w:=w) (B:=w.heap.size) (n:=n) (a:=a) (l:=of) hR 0 (by omega)
    subst e0
    simp only [Nat.zero_mul,Nat.add_zero] at p0 p1 p2
    have hA:=Jh (fun W (h : Below w.heap.size w W) => ih of[0] _ W (hr0.up h h.size) (hbw.trans (h.mono hbw.size)) (hRa _ (List.getElem_mem _)) (hDa _ (List.getElem_mem _)))
    have HQ : Hid (z0b names (n + 1) (4,s,of) on = !(z0b names n of[0] on)):=by
     rw [Hid,z3o]
     match of,hl1 with
     | [x],_ => rfl
    obtain ⟨va,hva⟩ : ∃ va,z0b names n of[0] on = va:=⟨_,rfl⟩
    rw [hva] at hA HQ
    rw [hl1]
    have hi0 : (0 : Int) < 1:=by decide
    have HBX : Hid (Below w.heap.size w (w.alloc (.cells #[.int .u8 4,.string s,.slice (some ⟨fa0,off,none⟩) 1 c] 25))):=z0c _ _
    clear hR hRl hRa hDa ih hbw hr0 hva hl1 hd1
    go_enter Tryz.func92,Tryz.ntmps92
    go_wp2_with fail
    refine (hA.out _ HBX.out).mono ?_
    rintro e w2 ⟨rfl,hb2⟩
    have HB2 : Hid (Below w.heap.size w w2):=HBX.out.trans (hb2.mono HBX.out.size)
    clear hb2
    go_wp2_with fail
    all_goals go_ret
    all_goals exact ⟨by rw [HQ.out]; rfl,HB2.out⟩
   ·-- two parts
    have hl2 : of.length = 2:=by have : (of.length == 2) = true:=hRl; simpa using this
    obtain ⟨fa0,off,ka,sa,aa,la,ca,e0,hb0,p0,p1,p2,hr0⟩:=FRow.at (w:=w) (B:=w.heap.size) (n:=n) (a:=a) (l:=of) hR 0 (by omega)
    obtain ⟨fb0,off2,kb,sb,ab,lb,cb,e1,hb2,q0,q1,q2,hr1⟩:=FRow.at (w:=w) (B:=w.heap.size) (n:=n) (a:=a) (l:=of) hR 1 (by omega)
    rw [e0] at e1
    obtain ⟨rfl,rfl⟩ : fa0 = fb0 ∧ off = off2:=by simpa using e1
    subst e0
    simp only [Nat.zero_mul,Nat.one_mul,Nat.add_zero] at p0 p1 p2 q0 q1 q2
    have hA:=Jh (fun W (h : Below w.heap.size w W) => ih of[0] _ W (hr0.up h h.size) (hbw.trans (h.mono hbw.size)) (hRa _ (List.getElem_mem _)) (hDa _ (List.getElem_mem _)))
    have hB:=Jh (fun W (h : Below w.heap.size w W) => ih of[1] _ W (hr1.up h h.size) (hbw.trans (h.mono hbw.size)) (hRa _ (List.getElem_mem _)) (hDa _ (List.getElem_mem _)))
    have HQ : Hid (z0b names (n + 1) (5,s,of) on = (z0b names n of[0] on && z0b names n of[1] on)):=by
     rw [Hid,z3o]
     match of,hl2 with
     | [x,y],_ => rfl
    obtain ⟨va,hva⟩ : ∃ va,z0b names n of[0] on = va:=⟨_,rfl⟩
    obtain ⟨vb,hvb⟩ : ∃ vb,z0b names n of[1] on = vb:=⟨_,rfl⟩
    rw [hva] at hA HQ
    rw [hvb] at hB HQ
    have HC : Hid (∀ W,Below w.heap.size w W → W.cell? ⟨fa0,off + 3,none⟩ = some (.int .u8 kb) ∧ W.cell? ⟨fa0,off + 3 + 1,none⟩ = some (.string sb) ∧ W.cell? ⟨fa0,off + 3 + 2,none⟩ = some (.slice ab lb cb) ∧ fa0 < W.heap.size):=fun W h => ⟨(h.cell (p:=⟨fa0,off + 3,none⟩) hb0).trans q0,(h.cell (p:=⟨fa0,off + 3 + 1,none⟩) hb0).trans q1,(h.cell (p:=⟨fa0,off + 3 + 2,none⟩) hb0).trans q2,Nat.lt_of_lt_of_le hb0 h.size⟩
    rw [hl2]
    have hi0 : (0 : Int) < 2:=by decide
    have hi1 : (1 : Int) < 2:=by decide
    have HBX : Hid (Below w.heap.size w (w.alloc (.cells #[.int .u8 5,.string s,.slice (some ⟨fa0,off,none⟩) 2 c] 25))):=z0c _ _
    clear hR hRl hRa hDa ih hbw hr0 hr1 q0 q1 q2 hb2 hva hvb e1 hl2 hd1
    go_enter Tryz.func92,Tryz.ntmps92
    go_wp2_with fail
    refine (hA.out _ HBX.out).mono ?_
    rintro e w2 ⟨rfl,hb2⟩
    have HB2 : Hid (Below w.heap.size w w2):=HBX.out.trans (hb2.mono HBX.out.size)
    have hm2 : w2.heap[w.heap.size]? = some (.cells #[.int .u8 5,.string s,.slice (some ⟨fa0,off,none⟩) 2 c] 25 (0,0)):=(hb2.block _ (by simp)).trans (z03 rfl)
    have y2:=Jc hm2 2
    simp only [J9,J7,J8] at y2
    have yl:=(Array.getElem?_eq_some_iff.1 hm2).1
    obtain ⟨q0,q1,q2,ql⟩:=HC.out w2 HB2.out
    clear hb2 hm2 p0 p1 p2 hb0
    cases va with
    | false =>
     go_wp2_with fail
     all_goals go_ret
     all_goals exact ⟨by rw [HQ.out]; rfl,HB2.out⟩
    | true =>
     go_wp2_with fail
     refine (hB.out _ HB2.out).mono ?_
     rintro e w3 ⟨rfl,hb3⟩
     have HB3:=Jh (HB2.out.trans (hb3.mono HB2.out.size))
     clear hb3
     go_wp2_with fail
     all_goals go_ret
     all_goals exact ⟨by rw [HQ.out]; rfl,HB3.out⟩
   ·-- two parts
    have hl2 : of.length = 2:=by have : (of.length == 2) = true:=hRl; simpa using this
    obtain ⟨fa0,off,ka,sa,aa,la,ca,e0,hb0,p0,p1,p2,hr0⟩:=FRow.at (w:=w) (B:=w.heap.size) (n:=n) (a:=a) (l:=of) hR 0 (by omega)
    obtain ⟨fb0,off2,kb,sb,ab,lb,cb,e1,hb2,q0,q1,q2,hr1⟩:=FRow.at (w:=w) (B:=w.heap.size) (n:=n) (a:=a) (l:=of) hR 1 (by omega)
    rw [e0] at e1
    obtain ⟨rfl,rfl⟩ : fa0 = fb0 ∧ off = off2:=by simpa using e1
    subst e0
    simp only [Nat.zero_mul,Nat.one_mul,Nat.add_zero] at p0 p1 p2 q0 q1 q2
    have hA:=Jh (fun W (h : Below w.heap.size w W) => ih of[0] _ W (hr0.up h h.size) (hbw.trans (h.mono hbw.size)) (hRa _ (List.getElem_mem _)) (hDa _ (List.getElem_mem _)))
    have hB:=Jh (fun W (h : Below w.heap.size w W) => ih of[1] _ W (hr1.up h h.size) (hbw.trans (h.mono hbw.size)) (hRa _ (List.getElem_mem _)) (hDa _ (List.getElem_mem _)))
    have HQ : Hid (z0b names (n + 1) (6,s,of) on = (z0b names n of[0] on || z0b names n of[1] on)):=by
     rw [Hid,z3o]
     match of,hl2 with
     | [x,y],_ => rfl
    obtain ⟨va,hva⟩ : ∃ va,z0b names n of[0] on = va:=⟨_,rfl⟩
    obtain ⟨vb,hvb⟩ : ∃ vb,z0b names n of[1] on = vb:=⟨_,rfl⟩
    rw [hva] at hA HQ
    rw [hvb] at hB HQ
    have HC : Hid (∀ W,Below w.heap.size w W → W.cell? ⟨fa0,off + 3,none⟩ = some (.int .u8 kb) ∧ W.cell? ⟨fa0,off + 3 + 1,none⟩ = some (.string sb) ∧ W.cell? ⟨fa0,off + 3 + 2,none⟩ = some (.slice ab lb cb) ∧ fa0 < W.heap.size):=fun W h => ⟨(h.cell (p:=⟨fa0,off + 3,none⟩) hb0).trans q0,(h.cell (p:=⟨fa0,off + 3 + 1,none⟩) hb0).trans q1,(h.cell (p:=⟨fa0,off + 3 + 2,none⟩) hb0).trans q2,Nat.lt_of_lt_of_le hb0 h.size⟩
    rw [hl2]
    have hi0 : (0 : Int) < 2:=by decide
    have hi1 : (1 : Int) < 2:=by decide
    have HBX : Hid (Below w.heap.size w (w.alloc (.cells #[.int .u8 6,.string s,.slice (some ⟨fa0,off,none⟩) 2 c] 25))):=z0c _ _
    clear hR hRl hRa hDa ih hbw hr0 hr1 q0 q1 q2 hb2 hva hvb e1 hl2 hd1
    go_enter Tryz.func92,Tryz.ntmps92
    go_wp2_with fail
    refine (hA.out _ HBX.out).mono ?_
    rintro e w2 ⟨rfl,hb2⟩
    have HB2 : Hid (Below w.heap.size w w2):=HBX.out.trans (hb2.mono HBX.out.size)
    have hm2 : w2.heap[w.heap.size]? = some (.cells #[.int .u8 6,.string s,.slice (some ⟨fa0,off,none⟩) 2 c] 25 (0,0)):=(hb2.block _ (by simp)).trans (z03 rfl)
    have y2:=Jc hm2 2
    simp only [J9,J7,J8] at y2
    have yl:=(Array.getElem?_eq_some_iff.1 hm2).1
    obtain ⟨q0,q1,q2,ql⟩:=HC.out w2 HB2.out
    clear hb2 hm2 p0 p1 p2 hb0
    cases va with
    | true =>
     go_wp2_with fail
     all_goals go_ret
     all_goals exact ⟨by rw [HQ.out]; rfl,HB2.out⟩
    | false =>
     go_wp2_with fail
     refine (hB.out _ HB2.out).mono ?_
     rintro e w3 ⟨rfl,hb3⟩
     have HB3:=Jh (HB2.out.trans (hb3.mono HB2.out.size))
     clear hb3
     go_wp2_with fail
     all_goals go_ret
     all_goals exact ⟨by rw [HQ.out]; rfl,HB3.out⟩
end Go.Proofs.YtockinpjfhhkoaaGreatDoor
