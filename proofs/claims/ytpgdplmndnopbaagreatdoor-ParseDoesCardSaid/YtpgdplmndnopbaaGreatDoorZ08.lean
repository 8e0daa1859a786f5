/- The book's parser walked: a formula's least part. (Printed by gen_rcone.py.) -/
import Derived.Test.YtpgdplmndnopbaaGreatDoorZ07
import Derived.Test.YtpgdplmndnopbaaGreatDoorZ06
import Derived.Deep.Cut
import Derived.Test.YtpgdplmndnopbaaGreatDoorZ02
set_option maxRecDepth 100000
set_option maxHeartbeats 16000000
namespace Go.Proofs.YtpgdplmndnopbaaGreatDoor
open Go.RowKit
theorem z2h {s s' : List UInt8} {l : List Tok} (h : isT s l = true) (hn : (s == s') = false) : isT s' l = false:=by
 cases l with
 | nil => rfl
 | cons t l =>
  have h' : (t.kind != 2 && t.text.data.toList == s) = true:=h
  show (t.kind != 2 && t.text.data.toList == s') = false
  simp only [Bool.and_eq_true,beq_iff_eq] at h'
  rw [h'.2,hn,Bool.and_false]
theorem rest_at {L : List Tok} {stop : Int} {nx : Nat} (h : nx < L.length) : z01 L stop nx = L[nx] :: z01 L stop (nx + 1):=by
 unfold z01
 rw [List.drop_eq_getElem_cons h]; rfl
theorem rest_end {L : List Tok} {stop : Int} {nx : Nat} (h : L.length ≤ nx) : z01 L stop nx = [⟨0,⟨#[]⟩,stop⟩]:=by
 unfold z01
 rw [List.drop_of_length_le h]; rfl
theorem ErF.of {pb tb : Nat} {L : List Tok} {stop : Int} {P : Nat → Int → Prop} {e b : Int} {w w' : World} {k : Int} {s : ByteArray} {a : Option Addr} {n c : Nat} {nx : Nat} {d : Int} (hp : P nx d) (h : Same pb tb w w' L stop nx d e b) : ErF pb tb L stop P e b w (.returned (.agg #[.int .u8 k,.string s,.slice a n c])) w':=⟨k,s,a,n,c,nx,d,rfl,hp,h⟩
theorem one220_stuck (pb tb : Nat) (L : List Tok) (stop : Int) (nx : Nat) (d e b : Int) (he : e ≠ 0) (w : World) (h : RP pb tb w L stop nx d e b) :
 Calls Tryz.prog 220 #[.pointer (some ⟨pb,0,none⟩)] w (ErF pb tb L stop (fun n d' => n = nx ∧ d' = d) e b w):=by
 have hB:=h.base
 have hkp : w.heap.size ≠ pb:=by omega
 have HB:=Lib.hid hB
 have HE:=Lib.hid he
 have HS1 : Hid (Same pb tb w (w.alloc (.cells #[.int .u8 0,.string ⟨#[]⟩,.slice none 0 0] 61)) L stop nx d e b):=h.self.alloc _
 have HKR1 : Hid ((w.alloc (.cells #[.int .u8 0,.string ⟨#[]⟩,.slice none 0 0] 61)).heap[w.heap.size]? = some (.cells #[.int .u8 0,.string ⟨#[]⟩,.slice none 0 0] 61 (0,0))):=z06 rfl
 clear h he hB
 go_enter Tryz.func220,Tryz.ntmps220
 have HM2:=Lib.hid (z08 pb tb L stop nx d e b ⟨#[33]⟩ HE.out _ HS1.out.1)
 go_wp2_with fail
 refine HM2.out.mono ?_
 rintro en w2 ⟨rfl,hs2⟩
 have HS2:=Lib.hid (RP.same HS1.out hs2)
 have HKR2:=Lib.hid (hs2.at HKR1.out hkp)
 clear hs2
 have HM3:=Lib.hid (z1i pb tb L stop nx d e b ⟨#[123]⟩ _ (z4y pb tb L stop nx d e b ⟨#[123]⟩ HE.out _ HS2.out.1))
 go_wp2_with fail
 refine HM3.out.mono ?_
 rintro en w3 ⟨rfl,hs2⟩
 have HS3:=Lib.hid (RP.same HS2.out hs2)
 have HKR3:=Lib.hid (hs2.at HKR2.out hkp)
 clear hs2
 have HM4:=Lib.hid (z08 pb tb L stop nx d e b ⟨#[116,114,117,101]⟩ HE.out _ HS3.out.1)
 go_wp2_with fail
 refine HM4.out.mono ?_
 rintro en w4 ⟨rfl,hs2⟩
 have HS4:=Lib.hid (RP.same HS3.out hs2)
 have HKR4:=Lib.hid (hs2.at HKR3.out hkp)
 clear hs2
 have HM5:=Lib.hid (z08 pb tb L stop nx d e b ⟨#[102,97,108,115,101]⟩ HE.out _ HS4.out.1)
 go_wp2_with fail
 refine HM5.out.mono ?_
 rintro en w5 ⟨rfl,hs2⟩
 have HS5:=Lib.hid (RP.same HS4.out hs2)
 have HKR5:=Lib.hid (hs2.at HKR4.out hkp)
 clear hs2
 obtain ⟨ra,rcap,hblk,_⟩:=HS5.out.1.blk
 have x4:=Lib.cell_of_heap hblk 4
 simp only [List.getElem?_toArray,List.getElem?_cons_zero,List.getElem?_cons_succ] at x4
 have q4 : (e == 0) = false:=by have:=HE.out; simpa using this
 clear hblk
 go_wp2_with fail
 go_quiet (fail)
 go_wp2_with fail
 refine (z38 pb tb L stop nx d e b 170 HE.out _ (HS5.out.1.set (z4n (Bt.refl _ _) _) HS5.out.1.le (fun _ _ h1 => z5a h1 _))).mono ?_
 rintro en wz ⟨rfl,rfl⟩
 have hkr : w5.heap[w.heap.size]? = some (.cells #[.int .u8 0,.string ⟨#[]⟩,.slice none 0 0] 61 (0,0)):=HKR5.out
 generalize hq : World.drewN w5 _ = wq
 have HSQ : Hid (Same pb tb w wq L stop nx d e b):=by rw [Hid,← hq]; exact RP.same HS5.out (Same.drewN HS5.out.1 _)
 have hkq : wq.heap[w.heap.size]? = some (.cells #[.int .u8 0,.string ⟨#[]⟩,.slice none 0 0] 61 (0,0)):=by rw [← hq]; exact hkr
 clear hq hkr
 obtain ⟨xe0,xe1,xe2,xf0,xf1,xf2⟩:=cf3 hkq
 have HAT : Hid ((set3 wq w.heap.size (.int .u8 0) (.string ⟨#[]⟩) (.slice none 0 0)).heap[w.heap.size]? = some (.cells #[.int .u8 0,.string ⟨#[]⟩,.slice none 0 0] 61 (0,0))):=z0q hkq _ _ _
 have HOUT : Hid (ErF pb tb L stop (fun n d' => n = nx ∧ d' = d) e b w (.returned (.agg #[.int .u8 0,.string ⟨#[]⟩,.slice none 0 0])) (set3 wq w.heap.size (.int .u8 0) (.string ⟨#[]⟩) (.slice none 0 0))):=ErF.of ⟨rfl,rfl⟩ (HSQ.out.set3 (Nat.le_refl _) HB.out _ _ _)
 clear hkq
 go_wp2_with fail
 refine bodyPost_ret (results_cell_row rfl _ _ _ _ _ _ _ rfl HAT.out Tryz.underlying61 rfl (by kernel_rfl)) rfl ?_
 exact HOUT.out
theorem one220_deep (pb tb : Nat) (L : List Tok) (stop : Int) (bad : Int) (nx : Nat) (w : World) (h : RP pb tb w L stop nx 64 0 bad) (q : isT [123] (z01 L stop nx) = true) :
 Calls Tryz.prog 220 #[.pointer (some ⟨pb,0,none⟩)] w (ErF pb tb L stop (fun _ d => d = 65) 171 (z05 (z01 L stop nx)) w):=by
 have hB:=h.base
 have hkp : w.heap.size ≠ pb:=by omega
 have HB:=Lib.hid hB
 have HE : Hid ((171 : Int) ≠ 0):=by rw [Hid]; decide
 have HS1 : Hid (Same pb tb w (w.alloc (.cells #[.int .u8 0,.string ⟨#[]⟩,.slice none 0 0] 61)) L stop nx 64 0 bad):=h.self.alloc _
 have HKR1 : Hid ((w.alloc (.cells #[.int .u8 0,.string ⟨#[]⟩,.slice none 0 0] 61)).heap[w.heap.size]? = some (.cells #[.int .u8 0,.string ⟨#[]⟩,.slice none 0 0] 61 (0,0))):=z06 rfl
 have q1:=z2h q (s':=[33]) rfl
 clear h hB
 go_enter Tryz.func220,Tryz.ntmps220
 have HM2:=Lib.hid (z0e pb tb L stop nx 64 bad ⟨#[33]⟩ (by decide) _ HS1.out.1)
 rw [show (⟨#[33]⟩ : ByteArray).data.toList = [33] from rfl,q1] at HM2
 simp only [Bool.false_eq_true,if_false] at HM2
 go_wp2_with fail
 refine HM2.out.mono ?_
 rintro en w2 ⟨rfl,hs2⟩
 have HS2:=Lib.hid (RP.same HS1.out hs2)
 have HKR2:=Lib.hid (hs2.at HKR1.out hkp)
 clear hs2
 have HM3:=Lib.hid (z4a pb tb L stop nx bad ⟨#[123]⟩ (by decide) _ HS2.out.1 q)
 clear q q1
 go_wp2_with fail
 refine HM3.out.mono ?_
 rintro en w3 ⟨rfl,hs2⟩
 have HS3:=Lib.hid (RP.same HS2.out hs2)
 have HKR3:=Lib.hid (hs2.at HKR2.out hkp)
 clear hs2
 have HM4:=Lib.hid (z08 pb tb L stop nx 65 171 (z05 (z01 L stop nx)) ⟨#[116,114,117,101]⟩ HE.out _ HS3.out.1)
 go_wp2_with fail
 refine HM4.out.mono ?_
 rintro en w4 ⟨rfl,hs2⟩
 have HS4:=Lib.hid (RP.same HS3.out hs2)
 have HKR4:=Lib.hid (hs2.at HKR3.out hkp)
 clear hs2
 have HM5:=Lib.hid (z08 pb tb L stop nx 65 171 (z05 (z01 L stop nx)) ⟨#[102,97,108,115,101]⟩ HE.out _ HS4.out.1)
 go_wp2_with fail
 refine HM5.out.mono ?_
 rintro en w5 ⟨rfl,hs2⟩
 have HS5:=Lib.hid (RP.same HS4.out hs2)
 have HKR5:=Lib.hid (hs2.at HKR4.out hkp)
 clear hs2
 obtain ⟨ra,rcap,hblk,_⟩:=HS5.out.1.blk
 have x4:=Lib.cell_of_heap hblk 4
 simp only [List.getElem?_toArray,List.getElem?_cons_zero,List.getElem?_cons_succ] at x4
 have q4 : (171 == 0) = false:=by have:=HE.out; simp
 clear hblk
 go_wp2_with fail
 go_quiet (fail)
 go_wp2_with fail
 refine (z38 pb tb L stop nx 65 171 (z05 (z01 L stop nx)) 170 HE.out _ (HS5.out.1.set (z4n (Bt.refl _ _) _) HS5.out.1.le (fun _ _ h1 => z5a h1 _))).mono ?_
 rintro en wz ⟨rfl,rfl⟩
 generalize hq : World.drewN w5 _ = wq
 have HSQ : Hid (Same pb tb w wq L stop nx 65 171 (z05 (z01 L stop nx))):=by rw [Hid,← hq]; exact RP.same HS5.out (Same.drewN HS5.out.1 _)
 have hkq : wq.heap[w.heap.size]? = some (.cells #[.int .u8 0,.string ⟨#[]⟩,.slice none 0 0] 61 (0,0)):=by rw [← hq]; exact HKR5.out
 clear hq
 obtain ⟨xe0,xe1,xe2,xf0,xf1,xf2⟩:=cf3 hkq
 have HAT : Hid ((set3 wq w.heap.size (.int .u8 0) (.string ⟨#[]⟩) (.slice none 0 0)).heap[w.heap.size]? = some (.cells #[.int .u8 0,.string ⟨#[]⟩,.slice none 0 0] 61 (0,0))):=z0q hkq _ _ _
 have HOUT : Hid (ErF pb tb L stop (fun _ d => d = 65) 171 (z05 (z01 L stop nx)) w (.returned (.agg #[.int .u8 0,.string ⟨#[]⟩,.slice none 0 0])) (set3 wq w.heap.size (.int .u8 0) (.string ⟨#[]⟩) (.slice none 0 0))):=ErF.of rfl (HSQ.out.set3 (Nat.le_refl _) HB.out _ _ _)
 clear hkq
 go_wp2_with fail
 refine bodyPost_ret (results_cell_row rfl _ _ _ _ _ _ _ rfl HAT.out Tryz.underlying61 rfl (by kernel_rfl)) rfl ?_
 exact HOUT.out
theorem one220_in (pb tb : Nat) (L : List Tok) (stop : Int) (deep : Nat) (bad : Int) (nx : Nat) (w : World) (h : RP pb tb w L stop nx deep 0 bad) (hd : deep < 64) (RES RES0 : PRes F) (hne : ∀ c,RES = .error c → c.1 ≠ 0) (hR : RES = z1y RES0 fun x r => if isT [125] r then .ok (x,r.tail) else z1k 170 r) (q : isT [123] (z01 L stop nx) = true)
 (hform : ∀ w',Bt pb w w' → RP pb tb w' L stop (nx + 1) (deep + 1 : Nat) 0 bad → Calls Tryz.prog 205 #[.pointer (some ⟨pb,0,none⟩)] w' (OutRF pb tb L stop (deep + 1) bad w' RES0)) :
 Calls Tryz.prog 220 #[.pointer (some ⟨pb,0,none⟩)] w (OutRF pb tb L stop deep bad w RES):=by
 have hB:=h.base
 have hkp : w.heap.size ≠ pb:=by omega
 have HB:=Lib.hid hB
 have HS1 : Hid (Same pb tb w (w.alloc (.cells #[.int .u8 0,.string ⟨#[]⟩,.slice none 0 0] 61)) L stop nx deep 0 bad):=h.self.alloc _
 have HKR1 : Hid ((w.alloc (.cells #[.int .u8 0,.string ⟨#[]⟩,.slice none 0 0] 61)).heap[w.heap.size]? = some (.cells #[.int .u8 0,.string ⟨#[]⟩,.slice none 0 0] 61 (0,0))):=z06 rfl
 have q1:=z2h q (s':=[33]) rfl
 have HF:=Lib.hid hform
 have HR:=Lib.hid hR
 have HNE:=Lib.hid hne
 have HD:=Lib.hid hd
 have hlt:=z0z (s:=[123]) (by decide) q
 clear h hB hform hR hne hd hlt
 go_enter Tryz.func220,Tryz.ntmps220
 have HM2:=Lib.hid (z0e pb tb L stop nx deep bad ⟨#[33]⟩ (by decide) _ HS1.out.1)
 rw [show (⟨#[33]⟩ : ByteArray).data.toList = [33] from rfl,q1] at HM2
 simp only [Bool.false_eq_true,if_false] at HM2
 go_wp2_with fail
 refine HM2.out.mono ?_
 rintro en w2 ⟨rfl,hs2⟩
 have HS2:=Lib.hid (RP.same HS1.out hs2)
 have HKR2:=Lib.hid (hs2.at HKR1.out hkp)
 clear hs2
 have HM3:=Lib.hid (z5k pb tb L stop nx deep bad (by omega) (by have:=HD.out; omega) ⟨#[123]⟩ (by decide) _ HS2.out.1 q)
 clear q q1
 go_wp2_with fail
 refine HM3.out.mono ?_
 rintro en w3 ⟨rfl,hs2⟩
 have HS3:=Lib.hid (RP.same HS2.out hs2)
 have HKR3:=Lib.hid (hs2.at HKR2.out hkp)
 clear hs2
 have HM4:=Lib.hid (HF.out w3 HS3.out.2 HS3.out.1)
 cases RES0 with
 | error c =>
  have HRES : Hid (RES = .error c):=HR.out
  go_wp2_with fail
  refine HM4.out.mono ?_
  rintro en w4 ⟨hc0,k1,s1,a1,n1,c1,nx1,d1,rfl,hd1,hs2⟩
  have HS4:=Lib.hid (RP.same HS3.out hs2)
  have HKR4:=Lib.hid (hs2.at HKR3.out hkp)
  have HC0:=Lib.hid hc0
  have HD1:=Lib.hid hd1
  obtain ⟨kv,hkv⟩ : ∃ kv,kv = w4.heap.size:=⟨_,rfl⟩
  have hkvl : w.heap.size < kv:=by have:=(Array.getElem?_eq_some_iff.1 HKR4.out).1; omega
  have hkvp : kv ≠ pb:=by have:=HB.out.1; omega
  obtain ⟨w5,hw5⟩ : ∃ w5,w5 = w4.alloc (.cells #[.int .u8 k1,.string s1,.slice a1 n1 c1] 61):=⟨_,rfl⟩
  have HS5 : Hid (Same pb tb w w5 L stop nx1 d1 c.1 c.2):=by rw [Hid,hw5]; exact HS4.out.alloc _
  have HKR5 : Hid (w5.heap[w.heap.size]? = some (.cells #[.int .u8 0,.string ⟨#[]⟩,.slice none 0 0] 61 (0,0))):=by rw [Hid,hw5]; exact z0d HKR4.out
  have HKV5 : Hid (w5.heap[kv]? = some (.cells #[.int .u8 k1,.string s1,.slice a1 n1 c1] 61 (0,0))):=by rw [Hid,hw5]; exact z06 hkv
  have HM6:=Lib.hid (z1v pb tb L L stop stop nx1 d1 c.1 c.2 (by have:=HD1.out.1; omega) (by have:=HD1.out.2; have:=HD.out; omega) ⟨#[125]⟩ w5 (z0i pb tb L stop nx1 d1 c.1 c.2 ⟨#[125]⟩ HC0.out w5 HS5.out.1))
  have HW5:=Lib.hid hw5.symm
  have HKW:=Lib.hid hkv.symm
  clear hs2 hc0 hd1 hkv hw5
  go_upto_region 5 with fail
  rw [HW5.out,HKW.out]
  clear HW5 HKW
  go_wp2_with fail
  refine HM6.out.mono ?_
  rintro en w6 ⟨rfl,hs2⟩
  have HS6:=Lib.hid (RP.same HS5.out hs2)
  have HKR6:=Lib.hid (hs2.at HKR5.out hkp)
  have HKV6:=Lib.hid (hs2.at HKV5.out hkvp)
  clear hs2
  have hkv6:=HKV6.out
  obtain ⟨xg0,xg1,xg2⟩:=cc3 hkv6
  have hltv:=(Array.getElem?_eq_some_iff.1 hkv6).1
  clear hkv6
  have hkr:=HKR6.out
  obtain ⟨xe0,xe1,xe2,xf0,xf1,xf2⟩:=cf3 hkr
  have HAT : Hid ((set3 w6 w.heap.size (.int .u8 k1) (.string s1) (.slice a1 n1 c1)).heap[w.heap.size]? = some (.cells #[.int .u8 k1,.string s1,.slice a1 n1 c1] 61 (0,0))):=z0q hkr _ _ _
  have HOUT : Hid (OutRF pb tb L stop deep bad w (.error c) (.returned (.agg #[.int .u8 k1,.string s1,.slice a1 n1 c1])) (set3 w6 w.heap.size (.int .u8 k1) (.string s1) (.slice a1 n1 c1))):=⟨HC0.out,ErF.of (by have:=HD1.out; push_cast at this; omega) (HS6.out.set3 (Nat.le_refl _) HB.out _ _ _)⟩
  have hltz:=(Array.getElem?_eq_some_iff.1 hkr).1
  clear hkr
  go_wp2_with fail
  refine bodyPost_ret (results_cell_row rfl _ _ _ _ _ _ _ rfl HAT.out Tryz.underlying61 rfl (by kernel_rfl)) rfl ?_
  rw [HRES.out]
  exact HOUT.out
 | ok xr =>
  obtain ⟨x,r⟩:=xr
  go_wp2_with fail
  refine HM4.out.mono ?_
  rintro en w4 ho
  obtain ⟨k1,s1,a1,n1,c1,nx1,rfl,hf,hr,hs2⟩:=OutRF.ok ho
  have HS4:=Lib.hid (RP.same HS3.out hs2)
  have HKR4:=Lib.hid (hs2.at HKR3.out hkp)
  obtain ⟨kv,hkv⟩ : ∃ kv,kv = w4.heap.size:=⟨_,rfl⟩
  have hkvl : w.heap.size < kv:=by have:=(Array.getElem?_eq_some_iff.1 HKR4.out).1; omega
  have hkvp : kv ≠ pb:=by have:=HB.out.1; omega
  obtain ⟨w5,hw5⟩ : ∃ w5,w5 = w4.alloc (.cells #[.int .u8 k1,.string s1,.slice a1 n1 c1] 61):=⟨_,rfl⟩
  have HS5 : Hid (Same pb tb w w5 L stop nx1 ((deep + 1 : Nat) : Int) 0 bad):=by rw [Hid,hw5]; exact HS4.out.alloc _
  have HKR5 : Hid (w5.heap[w.heap.size]? = some (.cells #[.int .u8 0,.string ⟨#[]⟩,.slice none 0 0] 61 (0,0))):=by rw [Hid,hw5]; exact z0d HKR4.out
  have HKV5 : Hid (w5.heap[kv]? = some (.cells #[.int .u8 k1,.string s1,.slice a1 n1 c1] 61 (0,0))):=by rw [Hid,hw5]; exact z06 hkv
  have hsz3:=HS3.out.size
  have hk3:=(Array.getElem?_eq_some_iff.1 HKR3.out).1
  have HF5 : Hid (FI (fun b => decide (w.heap.size < b)) w5 x (.agg #[.int .u8 k1,.string s1,.slice a1 n1 c1])):=by
   rw [Hid,hw5]
   refine hf.go ⟨by simp,fun b hb hpn => ⟨?_,Lib.alloc_old _ _ _ hb⟩⟩
   have : w3.heap.size ≤ b:=of_decide_eq_true hpn
   exact decide_eq_true (by omega)
  have HW5:=Lib.hid hw5.symm
  have HKW:=Lib.hid hkv.symm
  have HRR:=Lib.hid hr
  clear hs2 ho hf hr hkv hw5
  cases qs : isT [125] (z01 L stop nx1) with
  | true =>
   have hlt1:=z0z (s:=[125]) (by decide) qs
   have HRES : Hid (RES = .ok (x,z01 L stop (nx1 + 1))):=by
    rw [Hid,HR.out]; show (if isT [125] r = true then _ else _) = _; rw [HRR.out,if_pos qs,z0p hlt1]
   have HM6:=Lib.hid (z1v pb tb L L stop stop (nx1 + 1) ((deep + 1 : Nat) : Int) 0 bad (by omega) (by have:=HD.out; omega) ⟨#[125]⟩ w5 (z1q pb tb L stop nx1 ((deep + 1 : Nat) : Int) bad ⟨#[125]⟩ (by decide) w5 HS5.out.1 qs))
   rw [show ((deep + 1 : Nat) : Int) - 1 = (deep : Int) by omega] at HM6
   clear qs hlt1
   go_upto_region 5 with fail
   rw [HW5.out,HKW.out]
   clear HW5 HKW
   go_wp2_with fail
   refine HM6.out.mono ?_
   rintro en w6 ⟨rfl,hs2⟩
   have HS6:=Lib.hid (RP.same HS5.out hs2)
   have HKR6:=Lib.hid (hs2.at HKR5.out hkp)
   have HKV6:=Lib.hid (hs2.at HKV5.out hkvp)
   have HBT6:=Lib.hid hs2.2
   clear hs2
   have hkv6:=HKV6.out
   obtain ⟨xg0,xg1,xg2⟩:=cc3 hkv6
   have hltv:=(Array.getElem?_eq_some_iff.1 hkv6).1
   clear hkv6
   have hkr:=HKR6.out
   obtain ⟨xe0,xe1,xe2,xf0,xf1,xf2⟩:=cf3 hkr
   have HAT : Hid ((set3 w6 w.heap.size (.int .u8 k1) (.string s1) (.slice a1 n1 c1)).heap[w.heap.size]? = some (.cells #[.int .u8 k1,.string s1,.slice a1 n1 c1] 61 (0,0))):=z0q hkr _ _ _
   have HOUT : Hid (OutRF pb tb L stop deep bad w (.ok (x,z01 L stop (nx1 + 1))) (.returned (.agg #[.int .u8 k1,.string s1,.slice a1 n1 c1])) (set3 w6 w.heap.size (.int .u8 k1) (.string s1) (.slice a1 n1 c1))):=by
    refine ⟨_,nx1 + 1,rfl,?_,rfl,HS6.out.set3 (Nat.le_refl _) HB.out _ _ _⟩
    refine HF5.out.go ⟨by rw [z0s]; exact HBT6.out.2.2.2.1,fun b hb hpn => ?_⟩
    have hpn':=of_decide_eq_true hpn
    have:=HB.out.1
    exact ⟨decide_eq_true (show w.heap.size ≤ b by omega),(z0f _ _ _ _ _ _ (by omega)).trans (HBT6.out.2.2.2.2 b hb (by omega))⟩
   have hltz:=(Array.getElem?_eq_some_iff.1 hkr).1
   clear hkr
   go_wp2_with fail
   refine bodyPost_ret (results_cell_row rfl _ _ _ _ _ _ _ rfl HAT.out Tryz.underlying61 rfl (by kernel_rfl)) rfl ?_
   rw [HRES.out]
   exact HOUT.out
  | false =>
   have HRES : Hid (RES = .error (170,z05 (z01 L stop nx1))):=by
    rw [Hid,HR.out]; show (if isT [125] r = true then _ else _) = _; rw [HRR.out,qs]; rfl
   have HM6:=Lib.hid (z1v pb tb L L stop stop nx1 ((deep + 1 : Nat) : Int) 170 (z05 (z01 L stop nx1)) (by omega) (by have:=HD.out; omega) ⟨#[125]⟩ w5 (z1r pb tb L stop nx1 ((deep + 1 : Nat) : Int) bad ⟨#[125]⟩ (by decide) w5 HS5.out.1 qs))
   rw [show ((deep + 1 : Nat) : Int) - 1 = (deep : Int) by omega] at HM6
   clear qs
   go_upto_region 5 with fail
   rw [HW5.out,HKW.out]
   clear HW5 HKW
   go_wp2_with fail
   refine HM6.out.mono ?_
   rintro en w6 ⟨rfl,hs2⟩
   have HS6:=Lib.hid (RP.same HS5.out hs2)
   have HKR6:=Lib.hid (hs2.at HKR5.out hkp)
   have HKV6:=Lib.hid (hs2.at HKV5.out hkvp)
   clear hs2
   have hkv6:=HKV6.out
   obtain ⟨xg0,xg1,xg2⟩:=cc3 hkv6
   have hltv:=(Array.getElem?_eq_some_iff.1 hkv6).1
   clear hkv6
   have hkr:=HKR6.out
   obtain ⟨xe0,xe1,xe2,xf0,xf1,xf2⟩:=cf3 hkr
   have HAT : Hid ((set3 w6 w.heap.size (.int .u8 k1) (.string s1) (.slice a1 n1 c1)).heap[w.heap.size]? = some (.cells #[.int .u8 k1,.string s1,.slice a1 n1 c1] 61 (0,0))):=z0q hkr _ _ _
   have HOUT : Hid (OutRF pb tb L stop deep bad w (.error (170,z05 (z01 L stop nx1))) (.returned (.agg #[.int .u8 k1,.string s1,.slice a1 n1 c1])) (set3 w6 w.heap.size (.int .u8 k1) (.string s1) (.slice a1 n1 c1))):=⟨show (170 : Int) ≠ 0 by decide,ErF.of (by omega) (HS6.out.set3 (Nat.le_refl _) HB.out _ _ _)⟩
   have hltz:=(Array.getElem?_eq_some_iff.1 hkr).1
   clear hkr
   go_wp2_with fail
   refine bodyPost_ret (results_cell_row rfl _ _ _ _ _ _ _ rfl HAT.out Tryz.underlying61 rfl (by kernel_rfl)) rfl ?_
   rw [HRES.out]
   exact HOUT.out
theorem one220_not (pb tb : Nat) (L : List Tok) (stop : Int) (deep : Nat) (bad : Int) (nx : Nat) (w : World) (h : RP pb tb w L stop nx deep 0 bad) (RES RES0 : PRes F) (hR : RES = z1y RES0 fun f r => .ok (notI f,r)) (q : isT [33] (z01 L stop nx) = true)
 (hone : ∀ w',Bt pb w w' → RP pb tb w' L stop (nx + 1) deep 0 bad → Calls Tryz.prog 220 #[.pointer (some ⟨pb,0,none⟩)] w' (OutRF pb tb L stop deep bad w' RES0)) :
 Calls Tryz.prog 220 #[.pointer (some ⟨pb,0,none⟩)] w (OutRF pb tb L stop deep bad w RES):=by
 have hB:=h.base
 have hkp : w.heap.size ≠ pb:=by omega
 have HB:=Lib.hid hB
 have HS1 : Hid (Same pb tb w (w.alloc (.cells #[.int .u8 0,.string ⟨#[]⟩,.slice none 0 0] 61)) L stop nx deep 0 bad):=h.self.alloc _
 have HKR1 : Hid ((w.alloc (.cells #[.int .u8 0,.string ⟨#[]⟩,.slice none 0 0] 61)).heap[w.heap.size]? = some (.cells #[.int .u8 0,.string ⟨#[]⟩,.slice none 0 0] 61 (0,0))):=z06 rfl
 have HF:=Lib.hid hone
 have HR:=Lib.hid hR
 clear h hB hone hR
 go_enter Tryz.func220,Tryz.ntmps220
 have HM2:=Lib.hid (z0e pb tb L stop nx deep bad ⟨#[33]⟩ (by decide) _ HS1.out.1)
 rw [show (⟨#[33]⟩ : ByteArray).data.toList = [33] from rfl,q] at HM2
 simp only [if_true] at HM2
 go_wp2_with fail
 refine HM2.out.mono ?_
 rintro en w2 ⟨rfl,hs2⟩
 have HS2:=Lib.hid (RP.same HS1.out hs2)
 have HKR2:=Lib.hid (hs2.at HKR1.out hkp)
 clear hs2
 clear q
 have HM3:=Lib.hid (HF.out w2 HS2.out.2 HS2.out.1)
 cases RES0 with
 | error c =>
  have HRES : Hid (RES = .error c):=HR.out
  go_wp2_with fail
  refine HM3.out.mono ?_
  rintro en w3 ⟨hc0,k1,s1,a1,n1,c1,nx1,d1,rfl,hd1,hs2⟩
  have HS3:=Lib.hid (RP.same HS2.out hs2)
  have HKR3:=Lib.hid (hs2.at HKR2.out hkp)
  have HC0:=Lib.hid hc0
  have HD1:=Lib.hid hd1
  clear hs2 hc0 hd1
  have hkr:=HKR3.out
  obtain ⟨xe0,xe1,xe2,xf0,xf1,xf2⟩:=cf3 hkr
  have HAT : Hid (((set3 w3 w.heap.size (.int .u8 4) (.string ⟨#[]⟩) (.slice (some ⟨w3.heap.size,0,none⟩) 1 1)).alloc (.cells #[.int .u8 k1,.string s1,.slice a1 n1 c1] 61)).heap[w.heap.size]? = some (.cells #[.int .u8 4,.string ⟨#[]⟩,.slice (some ⟨w3.heap.size,0,none⟩) 1 1] 61 (0,0))):=z0d (z0q hkr _ _ _)
  have HOUT : Hid (OutRF pb tb L stop deep bad w (.error c) (.returned (.agg #[.int .u8 4,.string ⟨#[]⟩,.slice (some ⟨w3.heap.size,0,none⟩) 1 1])) ((set3 w3 w.heap.size (.int .u8 4) (.string ⟨#[]⟩) (.slice (some ⟨w3.heap.size,0,none⟩) 1 1)).alloc (.cells #[.int .u8 k1,.string s1,.slice a1 n1 c1] 61))):=⟨HC0.out,ErF.of HD1.out ((HS3.out.set3 (Nat.le_refl _) HB.out _ _ _).alloc _)⟩
  have hltz:=(Array.getElem?_eq_some_iff.1 hkr).1
  clear hkr
  go_wp2_with fail
  refine bodyPost_ret (results_cell_row rfl _ _ _ _ _ _ _ rfl HAT.out Tryz.underlying61 rfl (by kernel_rfl)) rfl ?_
  rw [HRES.out]
  exact HOUT.out
 | ok xr =>
  obtain ⟨x,r⟩:=xr
  go_wp2_with fail
  refine HM3.out.mono ?_
  rintro en w3 ho
  obtain ⟨k1,s1,a1,n1,c1,nx1,rfl,hf,hr,hs2⟩:=OutRF.ok ho
  have HRES : Hid (RES = .ok (notI x,z01 L stop nx1)):=by rw [Hid,HR.out,hr]; rfl
  have hk2:=(Array.getElem?_eq_some_iff.1 HKR2.out).1
  have HF3:=Lib.hid hf
  have HS3:=Lib.hid (RP.same HS2.out hs2)
  have HKR3:=Lib.hid (hs2.at HKR2.out hkp)
  have hk3:=(Array.getElem?_eq_some_iff.1 HKR3.out).1
  clear hs2 ho hf hr
  have hkr:=HKR3.out
  obtain ⟨xe0,xe1,xe2,xf0,xf1,xf2⟩:=cf3 hkr
  have HAT : Hid (((set3 w3 w.heap.size (.int .u8 4) (.string ⟨#[]⟩) (.slice (some ⟨w3.heap.size,0,none⟩) 1 1)).alloc (.cells #[.int .u8 k1,.string s1,.slice a1 n1 c1] 61)).heap[w.heap.size]? = some (.cells #[.int .u8 4,.string ⟨#[]⟩,.slice (some ⟨w3.heap.size,0,none⟩) 1 1] 61 (0,0))):=z0d (z0q hkr _ _ _)
  have HOUT : Hid (OutRF pb tb L stop deep bad w (.ok (notI x,z01 L stop nx1)) (.returned (.agg #[.int .u8 4,.string ⟨#[]⟩,.slice (some ⟨w3.heap.size,0,none⟩) 1 1])) ((set3 w3 w.heap.size (.int .u8 4) (.string ⟨#[]⟩) (.slice (some ⟨w3.heap.size,0,none⟩) 1 1)).alloc (.cells #[.int .u8 k1,.string s1,.slice a1 n1 c1] 61))):=by
   refine ⟨_,nx1,rfl,?_,rfl,(HS3.out.set3 (Nat.le_refl _) HB.out _ _ _).alloc _⟩
   have hf1 : FI (fun b => decide (w.heap.size ≤ b) && b != w.heap.size) ((set3 w3 w.heap.size (.int .u8 4) (.string ⟨#[]⟩) (.slice (some ⟨w3.heap.size,0,none⟩) 1 1)).alloc (.cells #[.int .u8 k1,.string s1,.slice a1 n1 c1] 61)) x (.agg #[.int .u8 k1,.string s1,.slice a1 n1 c1]):=by
    refine HF3.out.go ⟨by simp [z0s],fun b hbz hpn => ?_⟩
    have hpn':=of_decide_eq_true hpn
    refine ⟨?_,(Lib.alloc_old _ _ _ (by rw [z0s]; exact hbz)).trans (z0f _ _ _ _ _ _ (by omega))⟩
    simp only [Bool.and_eq_true,decide_eq_true_eq,bne_iff_ne,ne_eq]
    omega
   have hf2:=FI.one hf1 4 ⟨#[]⟩ w3.heap.size 1 (0,0) (by simp only [Bool.and_eq_true,decide_eq_true_eq,bne_iff_ne,ne_eq]; omega) (z06 (by rw [z0s]))
   refine FI.go hf2 ⟨Nat.le_refl _,fun b hbz hpc => ?_⟩
   simp only [Bool.and_eq_true,decide_eq_true_eq,bne_iff_ne,ne_eq] at hpc
   exact ⟨decide_eq_true hpc.1,rfl⟩
  have hltz:=(Array.getElem?_eq_some_iff.1 hkr).1
  clear hkr
  go_wp2_with fail
  refine bodyPost_ret (results_cell_row rfl _ _ _ _ _ _ _ rfl HAT.out Tryz.underlying61 rfl (by kernel_rfl)) rfl ?_
  rw [HRES.out]
  exact HOUT.out
theorem one220_true (pb tb : Nat) (L : List Tok) (stop : Int) (deep : Nat) (bad : Int) (nx : Nat) (w : World) (h : RP pb tb w L stop nx deep 0 bad) (RES : PRes F) (hR : RES = .ok (.mk 1 ⟨#[]⟩ [],z01 L stop (nx + 1))) (q : isT [116,114,117,101] (z01 L stop nx) = true) :
 Calls Tryz.prog 220 #[.pointer (some ⟨pb,0,none⟩)] w (OutRF pb tb L stop deep bad w RES):=by
 have hB:=h.base
 have hkp : w.heap.size ≠ pb:=by omega
 have HB:=Lib.hid hB
 have HS1 : Hid (Same pb tb w (w.alloc (.cells #[.int .u8 0,.string ⟨#[]⟩,.slice none 0 0] 61)) L stop nx deep 0 bad):=h.self.alloc _
 have HKR1 : Hid ((w.alloc (.cells #[.int .u8 0,.string ⟨#[]⟩,.slice none 0 0] 61)).heap[w.heap.size]? = some (.cells #[.int .u8 0,.string ⟨#[]⟩,.slice none 0 0] 61 (0,0))):=z06 rfl
 have HRES:=Lib.hid hR
 have q1:=z2h q (s':=[33]) rfl
 have q2:=z2h q (s':=[123]) rfl
 have q3:=z2h q (s':=[102,97,108,115,101]) rfl
 clear h hB hR
 go_enter Tryz.func220,Tryz.ntmps220
 have HM2:=Lib.hid (z0e pb tb L stop nx deep bad ⟨#[33]⟩ (by decide) _ HS1.out.1)
 rw [show (⟨#[33]⟩ : ByteArray).data.toList = [33] from rfl,q1] at HM2
 simp only [Bool.false_eq_true,if_false] at HM2
 go_wp2_with fail
 refine HM2.out.mono ?_
 rintro en w2 ⟨rfl,hs2⟩
 have HS2:=Lib.hid (RP.same HS1.out hs2)
 have HKR2:=Lib.hid (hs2.at HKR1.out hkp)
 clear hs2
 have HI3:=z1t pb tb L stop nx deep bad ⟨#[123]⟩ (by decide) _ HS2.out.1
 rw [show (⟨#[123]⟩ : ByteArray).data.toList = [123] from rfl,q2] at HI3
 have HM3:=Lib.hid (z1i pb tb L stop nx deep 0 bad ⟨#[123]⟩ _ HI3)
 clear HI3
 go_wp2_with fail
 refine HM3.out.mono ?_
 rintro en w3 ⟨rfl,hs2⟩
 have HS3:=Lib.hid (RP.same HS2.out hs2)
 have HKR3:=Lib.hid (hs2.at HKR2.out hkp)
 clear hs2
 have HM4:=Lib.hid (z0e pb tb L stop nx deep bad ⟨#[116,114,117,101]⟩ (by decide) _ HS3.out.1)
 rw [show (⟨#[116,114,117,101]⟩ : ByteArray).data.toList = [116,114,117,101] from rfl,q] at HM4
 simp only [if_true] at HM4
 go_wp2_with fail
 refine HM4.out.mono ?_
 rintro en w4 ⟨rfl,hs2⟩
 have HS4:=Lib.hid (RP.same HS3.out hs2)
 have HKR4:=Lib.hid (hs2.at HKR3.out hkp)
 clear hs2
 clear q q1 q2 q3
 have hkr:=HKR4.out
 obtain ⟨xe0,xe1,xe2,xf0,xf1,xf2⟩:=cf3 hkr
 have HAT : Hid ((set3 w4 w.heap.size (.int .u8 1) (.string ⟨#[]⟩) (.slice none 0 0)).heap[w.heap.size]? = some (.cells #[.int .u8 1,.string ⟨#[]⟩,.slice none 0 0] 61 (0,0))):=z0q hkr _ _ _
 have HOUT : Hid (OutRF pb tb L stop deep bad w (.ok (.mk 1 ⟨#[]⟩ [],z01 L stop (nx + 1))) (.returned (.agg #[.int .u8 1,.string ⟨#[]⟩,.slice none 0 0])) (set3 w4 w.heap.size (.int .u8 1) (.string ⟨#[]⟩) (.slice none 0 0))):=⟨_,nx + 1,rfl,FI.none _ _ _ _ _ _,rfl,HS4.out.set3 (Nat.le_refl _) HB.out _ _ _⟩
 have hltz:=(Array.getElem?_eq_some_iff.1 hkr).1
 clear hkr
 go_wp2_with fail
 refine bodyPost_ret (results_cell_row rfl _ _ _ _ _ _ _ rfl HAT.out Tryz.underlying61 rfl (by kernel_rfl)) rfl ?_
 rw [HRES.out]
 exact HOUT.out
theorem one220_false (pb tb : Nat) (L : List Tok) (stop : Int) (deep : Nat) (bad : Int) (nx : Nat) (w : World) (h : RP pb tb w L stop nx deep 0 bad) (RES : PRes F) (hR : RES = .ok (.mk 2 ⟨#[]⟩ [],z01 L stop (nx + 1))) (q : isT [102,97,108,115,101] (z01 L stop nx) = true) :
 Calls Tryz.prog 220 #[.pointer (some ⟨pb,0,none⟩)] w (OutRF pb tb L stop deep bad w RES):=by
 have hB:=h.base
 have hkp : w.heap.size ≠ pb:=by omega
 have HB:=Lib.hid hB
 have HS1 : Hid (Same pb tb w (w.alloc (.cells #[.int .u8 0,.string ⟨#[]⟩,.slice none 0 0] 61)) L stop nx deep 0 bad):=h.self.alloc _
 have HKR1 : Hid ((w.alloc (.cells #[.int .u8 0,.string ⟨#[]⟩,.slice none 0 0] 61)).heap[w.heap.size]? = some (.cells #[.int .u8 0,.string ⟨#[]⟩,.slice none 0 0] 61 (0,0))):=z06 rfl
 have HRES:=Lib.hid hR
 have q1:=z2h q (s':=[33]) rfl
 have q2:=z2h q (s':=[123]) rfl
 have q3:=z2h q (s':=[116,114,117,101]) rfl
 clear h hB hR
 go_enter Tryz.func220,Tryz.ntmps220
 have HM2:=Lib.hid (z0e pb tb L stop nx deep bad ⟨#[33]⟩ (by decide) _ HS1.out.1)
 rw [show (⟨#[33]⟩ : ByteArray).data.toList = [33] from rfl,q1] at HM2
 simp only [Bool.false_eq_true,if_false] at HM2
 go_wp2_with fail
 refine HM2.out.mono ?_
 rintro en w2 ⟨rfl,hs2⟩
 have HS2:=Lib.hid (RP.same HS1.out hs2)
 have HKR2:=Lib.hid (hs2.at HKR1.out hkp)
 clear hs2
 have HI3:=z1t pb tb L stop nx deep bad ⟨#[123]⟩ (by decide) _ HS2.out.1
 rw [show (⟨#[123]⟩ : ByteArray).data.toList = [123] from rfl,q2] at HI3
 have HM3:=Lib.hid (z1i pb tb L stop nx deep 0 bad ⟨#[123]⟩ _ HI3)
 clear HI3
 go_wp2_with fail
 refine HM3.out.mono ?_
 rintro en w3 ⟨rfl,hs2⟩
 have HS3:=Lib.hid (RP.same HS2.out hs2)
 have HKR3:=Lib.hid (hs2.at HKR2.out hkp)
 clear hs2
 have HM4:=Lib.hid (z0e pb tb L stop nx deep bad ⟨#[116,114,117,101]⟩ (by decide) _ HS3.out.1)
 rw [show (⟨#[116,114,117,101]⟩ : ByteArray).data.toList = [116,114,117,101] from rfl,q3] at HM4
 simp only [Bool.false_eq_true,if_false] at HM4
 go_wp2_with fail
 refine HM4.out.mono ?_
 rintro en w4 ⟨rfl,hs2⟩
 have HS4:=Lib.hid (RP.same HS3.out hs2)
 have HKR4:=Lib.hid (hs2.at HKR3.out hkp)
 clear hs2
 have HM5:=Lib.hid (z0e pb tb L stop nx deep bad ⟨#[102,97,108,115,101]⟩ (by decide) _ HS4.out.1)
 rw [show (⟨#[102,97,108,115,101]⟩ : ByteArray).data.toList = [102,97,108,115,101] from rfl,q] at HM5
 simp only [if_true] at HM5
 go_wp2_with fail
 refine HM5.out.mono ?_
 rintro en w5 ⟨rfl,hs2⟩
 have HS5:=Lib.hid (RP.same HS4.out hs2)
 have HKR5:=Lib.hid (hs2.at HKR4.out hkp)
 clear hs2
 clear q q1 q2 q3
 have hkr:=HKR5.out
 obtain ⟨xe0,xe1,xe2,xf0,xf1,xf2⟩:=cf3 hkr
 have HAT : Hid ((set3 w5 w.heap.size (.int .u8 2) (.string ⟨#[]⟩) (.slice none 0 0)).heap[w.heap.size]? = some (.cells #[.int .u8 2,.string ⟨#[]⟩,.slice none 0 0] 61 (0,0))):=z0q hkr _ _ _
 have HOUT : Hid (OutRF pb tb L stop deep bad w (.ok (.mk 2 ⟨#[]⟩ [],z01 L stop (nx + 1))) (.returned (.agg #[.int .u8 2,.string ⟨#[]⟩,.slice none 0 0])) (set3 w5 w.heap.size (.int .u8 2) (.string ⟨#[]⟩) (.slice none 0 0))):=⟨_,nx + 1,rfl,FI.none _ _ _ _ _ _,rfl,HS5.out.set3 (Nat.le_refl _) HB.out _ _ _⟩
 have hltz:=(Array.getElem?_eq_some_iff.1 hkr).1
 clear hkr
 go_wp2_with fail
 refine bodyPost_ret (results_cell_row rfl _ _ _ _ _ _ _ rfl HAT.out Tryz.underlying61 rfl (by kernel_rfl)) rfl ?_
 rw [HRES.out]
 exact HOUT.out
theorem one220_end (pb tb : Nat) (L : List Tok) (stop : Int) (deep : Nat) (bad : Int) (nx : Nat) (w : World) (h : RP pb tb w L stop nx deep 0 bad) (RES : PRes F) (hR : RES = .error (170,z05 (z01 L stop nx))) (hlt : L.length ≤ nx) (hq : isT [33] (z01 L stop nx) = false ∧ isT [123] (z01 L stop nx) = false ∧ isT [116,114,117,101] (z01 L stop nx) = false ∧ isT [102,97,108,115,101] (z01 L stop nx) = false) :
 Calls Tryz.prog 220 #[.pointer (some ⟨pb,0,none⟩)] w (OutRF pb tb L stop deep bad w RES):=by
 have hB:=h.base
 have hkp : w.heap.size ≠ pb:=by omega
 have HB:=Lib.hid hB
 have HS1 : Hid (Same pb tb w (w.alloc (.cells #[.int .u8 0,.string ⟨#[]⟩,.slice none 0 0] 61)) L stop nx deep 0 bad):=h.self.alloc _
 have HKR1 : Hid ((w.alloc (.cells #[.int .u8 0,.string ⟨#[]⟩,.slice none 0 0] 61)).heap[w.heap.size]? = some (.cells #[.int .u8 0,.string ⟨#[]⟩,.slice none 0 0] 61 (0,0))):=z06 rfl
 have HRES:=Lib.hid hR
 have HQ:=Lib.hid hq
 clear hR hq
 have q1:=HQ.out.1
 have q2:=HQ.out.2.1
 have q3:=HQ.out.2.2.1
 have q4:=HQ.out.2.2.2
 clear h hB
 go_enter Tryz.func220,Tryz.ntmps220
 have HM2:=Lib.hid (z0e pb tb L stop nx deep bad ⟨#[33]⟩ (by decide) _ HS1.out.1)
 rw [show (⟨#[33]⟩ : ByteArray).data.toList = [33] from rfl,q1] at HM2
 simp only [Bool.false_eq_true,if_false] at HM2
 go_wp2_with fail
 refine HM2.out.mono ?_
 rintro en w2 ⟨rfl,hs2⟩
 have HS2:=Lib.hid (RP.same HS1.out hs2)
 have HKR2:=Lib.hid (hs2.at HKR1.out hkp)
 clear hs2
 have HI3:=z1t pb tb L stop nx deep bad ⟨#[123]⟩ (by decide) _ HS2.out.1
 rw [show (⟨#[123]⟩ : ByteArray).data.toList = [123] from rfl,q2] at HI3
 have HM3:=Lib.hid (z1i pb tb L stop nx deep 0 bad ⟨#[123]⟩ _ HI3)
 clear HI3
 go_wp2_with fail
 refine HM3.out.mono ?_
 rintro en w3 ⟨rfl,hs2⟩
 have HS3:=Lib.hid (RP.same HS2.out hs2)
 have HKR3:=Lib.hid (hs2.at HKR2.out hkp)
 clear hs2
 have HM4:=Lib.hid (z0e pb tb L stop nx deep bad ⟨#[116,114,117,101]⟩ (by decide) _ HS3.out.1)
 rw [show (⟨#[116,114,117,101]⟩ : ByteArray).data.toList = [116,114,117,101] from rfl,q3] at HM4
 simp only [Bool.false_eq_true,if_false] at HM4
 go_wp2_with fail
 refine HM4.out.mono ?_
 rintro en w4 ⟨rfl,hs2⟩
 have HS4:=Lib.hid (RP.same HS3.out hs2)
 have HKR4:=Lib.hid (hs2.at HKR3.out hkp)
 clear hs2
 have HM5:=Lib.hid (z0e pb tb L stop nx deep bad ⟨#[102,97,108,115,101]⟩ (by decide) _ HS4.out.1)
 rw [show (⟨#[102,97,108,115,101]⟩ : ByteArray).data.toList = [102,97,108,115,101] from rfl,q4] at HM5
 simp only [Bool.false_eq_true,if_false] at HM5
 go_wp2_with fail
 refine HM5.out.mono ?_
 rintro en w5 ⟨rfl,hs2⟩
 have HS5:=Lib.hid (RP.same HS4.out hs2)
 have HKR5:=Lib.hid (hs2.at HKR4.out hkp)
 clear hs2
 clear q1 q2 q3 q4
 obtain ⟨ra,rcap,hblk,hrc⟩:=HS5.out.1.blk
 have x0:=Lib.cell_of_heap hblk 0
 have x2:=Lib.cell_of_heap hblk 2
 have x4:=Lib.cell_of_heap hblk 4
 have f2:=Lib.frozen_of_heap hblk 2
 simp only [List.getElem?_toArray,List.getElem?_cons_zero,List.getElem?_cons_succ] at x0 x2 x4
 have hle:=HS5.out.1.le
 have hlen:=HS5.out.1.len
 have hltI : ¬ ((nx : Nat) : Int) < ((L.length : Nat) : Int):=by omega
 have hltN : ¬ nx < L.length:=by omega
 clear hblk hrc hlt hle
 go_wp2_with fail
 go_quiet (fail)
 go_wp2_with fail
 refine (z2z pb tb L stop nx deep bad 170 _ (Same.drewN HS5.out.1 _).1).mono ?_
 rintro en w6 ⟨rfl,hp6,hb6⟩
 have HS6 : Hid (Same pb tb w w6 L stop nx deep 170 (z05 (z01 L stop nx))):=RP.same HS5.out ⟨hp6,Bt.trans (Same.drewN HS5.out.1 _).2 hb6⟩
 have HKR6 : Hid (w6.heap[w.heap.size]? = some (.cells #[.int .u8 0,.string ⟨#[]⟩,.slice none 0 0] 61 (0,0))):=Bt.at (Bt.trans (Same.drewN HS5.out.1 _).2 hb6) HKR5.out hkp
 clear hp6 hb6
 have hkr:=HKR6.out
 obtain ⟨xe0,xe1,xe2,xf0,xf1,xf2⟩:=cf3 hkr
 have HAT : Hid ((set3 w6 w.heap.size (.int .u8 0) (.string ⟨#[]⟩) (.slice none 0 0)).heap[w.heap.size]? = some (.cells #[.int .u8 0,.string ⟨#[]⟩,.slice none 0 0] 61 (0,0))):=z0q hkr _ _ _
 have HOUT : Hid (OutRF pb tb L stop deep bad w (.error (170,z05 (z01 L stop nx))) (.returned (.agg #[.int .u8 0,.string ⟨#[]⟩,.slice none 0 0])) (set3 w6 w.heap.size (.int .u8 0) (.string ⟨#[]⟩) (.slice none 0 0))):=⟨show (170 : Int) ≠ 0 by decide,ErF.of (by omega) (HS6.out.set3 (Nat.le_refl _) HB.out _ _ _)⟩
 have hltz:=(Array.getElem?_eq_some_iff.1 hkr).1
 clear hkr
 go_wp2_with fail
 refine bodyPost_ret (results_cell_row rfl _ _ _ _ _ _ _ rfl HAT.out Tryz.underlying61 rfl (by kernel_rfl)) rfl ?_
 rw [HRES.out]
 exact HOUT.out
theorem one220_odd (pb tb : Nat) (L : List Tok) (stop : Int) (deep : Nat) (bad : Int) (nx : Nat) (w : World) (h : RP pb tb w L stop nx deep 0 bad) (RES : PRes F) (hlt : nx < L.length) (hR : RES = .error (170,z05 (z01 L stop nx))) (hk : L[nx].kind ≠ 1) (hq : isT [33] (z01 L stop nx) = false ∧ isT [123] (z01 L stop nx) = false ∧ isT [116,114,117,101] (z01 L stop nx) = false ∧ isT [102,97,108,115,101] (z01 L stop nx) = false) :
 Calls Tryz.prog 220 #[.pointer (some ⟨pb,0,none⟩)] w (OutRF pb tb L stop deep bad w RES):=by
 have hB:=h.base
 have hkp : w.heap.size ≠ pb:=by omega
 have HB:=Lib.hid hB
 have HS1 : Hid (Same pb tb w (w.alloc (.cells #[.int .u8 0,.string ⟨#[]⟩,.slice none 0 0] 61)) L stop nx deep 0 bad):=h.self.alloc _
 have HKR1 : Hid ((w.alloc (.cells #[.int .u8 0,.string ⟨#[]⟩,.slice none 0 0] 61)).heap[w.heap.size]? = some (.cells #[.int .u8 0,.string ⟨#[]⟩,.slice none 0 0] 61 (0,0))):=z06 rfl
 have HRES:=Lib.hid hR
 have HQ:=Lib.hid hq
 have HNM:=Lib.hid (fun W => z4j L[nx].text (by have:=(h.toks _ (List.getElem_mem hlt)).1; omega) W)
 have qk : (L[nx].kind == 1) = false:=by simpa using hk
 clear hR hq hk
 have q1:=HQ.out.1
 have q2:=HQ.out.2.1
 have q3:=HQ.out.2.2.1
 have q4:=HQ.out.2.2.2
 clear h hB
 go_enter Tryz.func220,Tryz.ntmps220
 have HM2:=Lib.hid (z0e pb tb L stop nx deep bad ⟨#[33]⟩ (by decide) _ HS1.out.1)
 rw [show (⟨#[33]⟩ : ByteArray).data.toList = [33] from rfl,q1] at HM2
 simp only [Bool.false_eq_true,if_false] at HM2
 go_wp2_with fail
 refine HM2.out.mono ?_
 rintro en w2 ⟨rfl,hs2⟩
 have HS2:=Lib.hid (RP.same HS1.out hs2)
 have HKR2:=Lib.hid (hs2.at HKR1.out hkp)
 clear hs2
 have HI3:=z1t pb tb L stop nx deep bad ⟨#[123]⟩ (by decide) _ HS2.out.1
 rw [show (⟨#[123]⟩ : ByteArray).data.toList = [123] from rfl,q2] at HI3
 have HM3:=Lib.hid (z1i pb tb L stop nx deep 0 bad ⟨#[123]⟩ _ HI3)
 clear HI3
 go_wp2_with fail
 refine HM3.out.mono ?_
 rintro en w3 ⟨rfl,hs2⟩
 have HS3:=Lib.hid (RP.same HS2.out hs2)
 have HKR3:=Lib.hid (hs2.at HKR2.out hkp)
 clear hs2
 have HM4:=Lib.hid (z0e pb tb L stop nx deep bad ⟨#[116,114,117,101]⟩ (by decide) _ HS3.out.1)
 rw [show (⟨#[116,114,117,101]⟩ : ByteArray).data.toList = [116,114,117,101] from rfl,q3] at HM4
 simp only [Bool.false_eq_true,if_false] at HM4
 go_wp2_with fail
 refine HM4.out.mono ?_
 rintro en w4 ⟨rfl,hs2⟩
 have HS4:=Lib.hid (RP.same HS3.out hs2)
 have HKR4:=Lib.hid (hs2.at HKR3.out hkp)
 clear hs2
 have HM5:=Lib.hid (z0e pb tb L stop nx deep bad ⟨#[102,97,108,115,101]⟩ (by decide) _ HS4.out.1)
 rw [show (⟨#[102,97,108,115,101]⟩ : ByteArray).data.toList = [102,97,108,115,101] from rfl,q4] at HM5
 simp only [Bool.false_eq_true,if_false] at HM5
 go_wp2_with fail
 refine HM5.out.mono ?_
 rintro en w5 ⟨rfl,hs2⟩
 have HS5:=Lib.hid (RP.same HS4.out hs2)
 have HKR5:=Lib.hid (hs2.at HKR4.out hkp)
 clear hs2
 clear q1 q2 q3 q4
 obtain ⟨ra,rcap,hblk,hrc⟩:=HS5.out.1.blk
 have x0:=Lib.cell_of_heap hblk 0
 have x2:=Lib.cell_of_heap hblk 2
 have x4:=Lib.cell_of_heap hblk 4
 have f2:=Lib.frozen_of_heap hblk 2
 simp only [List.getElem?_toArray,List.getElem?_cons_zero,List.getElem?_cons_succ] at x0 x2 x4
 have hle:=HS5.out.1.le
 have hlen:=HS5.out.1.len
 rcases hrc with hrc | ⟨rfl,hne,htb,htc⟩
 ·rw [hrc] at hlt; exact absurd hlt (by simp)
 ·have hltI : ((nx : Nat) : Int) < ((L.length : Nat) : Int):=by omega
  obtain ⟨t0,t1,_⟩:=htc nx hlt
  rw [Nat.zero_add] at t0 t1
  clear hblk htc
  go_wp2_with fail
  go_quiet (fail)
  go_wp2_with fail
  refine (z2z pb tb L stop nx deep bad 170 _ (Same.drewN HS5.out.1 _).1).mono ?_
  rintro en w6 ⟨rfl,hp6,hb6⟩
  have HS6 : Hid (Same pb tb w w6 L stop nx deep 170 (z05 (z01 L stop nx))):=RP.same HS5.out ⟨hp6,Bt.trans (Same.drewN HS5.out.1 _).2 hb6⟩
  have HKR6 : Hid (w6.heap[w.heap.size]? = some (.cells #[.int .u8 0,.string ⟨#[]⟩,.slice none 0 0] 61 (0,0))):=Bt.at (Bt.trans (Same.drewN HS5.out.1 _).2 hb6) HKR5.out hkp
  clear hp6 hb6
  have hkr:=HKR6.out
  obtain ⟨xe0,xe1,xe2,xf0,xf1,xf2⟩:=cf3 hkr
  have HAT : Hid ((set3 w6 w.heap.size (.int .u8 0) (.string ⟨#[]⟩) (.slice none 0 0)).heap[w.heap.size]? = some (.cells #[.int .u8 0,.string ⟨#[]⟩,.slice none 0 0] 61 (0,0))):=z0q hkr _ _ _
  have HOUT : Hid (OutRF pb tb L stop deep bad w (.error (170,z05 (z01 L stop nx))) (.returned (.agg #[.int .u8 0,.string ⟨#[]⟩,.slice none 0 0])) (set3 w6 w.heap.size (.int .u8 0) (.string ⟨#[]⟩) (.slice none 0 0))):=⟨show (170 : Int) ≠ 0 by decide,ErF.of (by omega) (HS6.out.set3 (Nat.le_refl _) HB.out _ _ _)⟩
  have hltz:=(Array.getElem?_eq_some_iff.1 hkr).1
  clear hkr
  go_wp2_with fail
  refine bodyPost_ret (results_cell_row rfl _ _ _ _ _ _ _ rfl HAT.out Tryz.underlying61 rfl (by kernel_rfl)) rfl ?_
  rw [HRES.out]
  exact HOUT.out
theorem one220_noname (pb tb : Nat) (L : List Tok) (stop : Int) (deep : Nat) (bad : Int) (nx : Nat) (w : World) (h : RP pb tb w L stop nx deep 0 bad) (RES : PRes F) (hlt : nx < L.length) (hR : RES = .error (170,z05 (z01 L stop nx))) (hk : L[nx].kind = 1) (hn : z3f L[nx].text.data.toList = false) (hq : isT [33] (z01 L stop nx) = false ∧ isT [123] (z01 L stop nx) = false ∧ isT [116,114,117,101] (z01 L stop nx) = false ∧ isT [102,97,108,115,101] (z01 L stop nx) = false) :
 Calls Tryz.prog 220 #[.pointer (some ⟨pb,0,none⟩)] w (OutRF pb tb L stop deep bad w RES):=by
 have hB:=h.base
 have hkp : w.heap.size ≠ pb:=by omega
 have HB:=Lib.hid hB
 have HS1 : Hid (Same pb tb w (w.alloc (.cells #[.int .u8 0,.string ⟨#[]⟩,.slice none 0 0] 61)) L stop nx deep 0 bad):=h.self.alloc _
 have HKR1 : Hid ((w.alloc (.cells #[.int .u8 0,.string ⟨#[]⟩,.slice none 0 0] 61)).heap[w.heap.size]? = some (.cells #[.int .u8 0,.string ⟨#[]⟩,.slice none 0 0] 61 (0,0))):=z06 rfl
 have HRES:=Lib.hid hR
 have HQ:=Lib.hid hq
 have HNM:=Lib.hid (fun W => z4j L[nx].text (by have:=(h.toks _ (List.getElem_mem hlt)).1; omega) W)
 rw [hn] at HNM
 have qk : (L[nx].kind == 1) = true:=by simpa using hk
 clear hR hq hk hn
 have q1:=HQ.out.1
 have q2:=HQ.out.2.1
 have q3:=HQ.out.2.2.1
 have q4:=HQ.out.2.2.2
 clear h hB
 go_enter Tryz.func220,Tryz.ntmps220
 have HM2:=Lib.hid (z0e pb tb L stop nx deep bad ⟨#[33]⟩ (by decide) _ HS1.out.1)
 rw [show (⟨#[33]⟩ : ByteArray).data.toList = [33] from rfl,q1] at HM2
 simp only [Bool.false_eq_true,if_false] at HM2
 go_wp2_with fail
 refine HM2.out.mono ?_
 rintro en w2 ⟨rfl,hs2⟩
 have HS2:=Lib.hid (RP.same HS1.out hs2)
 have HKR2:=Lib.hid (hs2.at HKR1.out hkp)
 clear hs2
 have HI3:=z1t pb tb L stop nx deep bad ⟨#[123]⟩ (by decide) _ HS2.out.1
 rw [show (⟨#[123]⟩ : ByteArray).data.toList = [123] from rfl,q2] at HI3
 have HM3:=Lib.hid (z1i pb tb L stop nx deep 0 bad ⟨#[123]⟩ _ HI3)
 clear HI3
 go_wp2_with fail
 refine HM3.out.mono ?_
 rintro en w3 ⟨rfl,hs2⟩
 have HS3:=Lib.hid (RP.same HS2.out hs2)
 have HKR3:=Lib.hid (hs2.at HKR2.out hkp)
 clear hs2
 have HM4:=Lib.hid (z0e pb tb L stop nx deep bad ⟨#[116,114,117,101]⟩ (by decide) _ HS3.out.1)
 rw [show (⟨#[116,114,117,101]⟩ : ByteArray).data.toList = [116,114,117,101] from rfl,q3] at HM4
 simp only [Bool.false_eq_true,if_false] at HM4
 go_wp2_with fail
 refine HM4.out.mono ?_
 rintro en w4 ⟨rfl,hs2⟩
 have HS4:=Lib.hid (RP.same HS3.out hs2)
 have HKR4:=Lib.hid (hs2.at HKR3.out hkp)
 clear hs2
 have HM5:=Lib.hid (z0e pb tb L stop nx deep bad ⟨#[102,97,108,115,101]⟩ (by decide) _ HS4.out.1)
 rw [show (⟨#[102,97,108,115,101]⟩ : ByteArray).data.toList = [102,97,108,115,101] from rfl,q4] at HM5
 simp only [Bool.false_eq_true,if_false] at HM5
 go_wp2_with fail
 refine HM5.out.mono ?_
 rintro en w5 ⟨rfl,hs2⟩
 have HS5:=Lib.hid (RP.same HS4.out hs2)
 have HKR5:=Lib.hid (hs2.at HKR4.out hkp)
 clear hs2
 clear q1 q2 q3 q4
 obtain ⟨ra,rcap,hblk,hrc⟩:=HS5.out.1.blk
 have x0:=Lib.cell_of_heap hblk 0
 have x2:=Lib.cell_of_heap hblk 2
 have x4:=Lib.cell_of_heap hblk 4
 have f2:=Lib.frozen_of_heap hblk 2
 simp only [List.getElem?_toArray,List.getElem?_cons_zero,List.getElem?_cons_succ] at x0 x2 x4
 have hle:=HS5.out.1.le
 have hlen:=HS5.out.1.len
 rcases hrc with hrc | ⟨rfl,hne,htb,htc⟩
 ·rw [hrc] at hlt; exact absurd hlt (by simp)
 ·have hltI : ((nx : Nat) : Int) < ((L.length : Nat) : Int):=by omega
  obtain ⟨t0,t1,_⟩:=htc nx hlt
  rw [Nat.zero_add] at t0 t1
  clear hblk htc
  go_wp2_with fail
  go_quiet (first | (go_at_call 95; refine Calls.quiet_of_same (HNM.out _)))
  go_wp2_with fail
  refine (z2z pb tb L stop nx deep bad 170 _ (Same.drewN HS5.out.1 _).1).mono ?_
  rintro en w6 ⟨rfl,hp6,hb6⟩
  have HS6 : Hid (Same pb tb w w6 L stop nx deep 170 (z05 (z01 L stop nx))):=RP.same HS5.out ⟨hp6,Bt.trans (Same.drewN HS5.out.1 _).2 hb6⟩
  have HKR6 : Hid (w6.heap[w.heap.size]? = some (.cells #[.int .u8 0,.string ⟨#[]⟩,.slice none 0 0] 61 (0,0))):=Bt.at (Bt.trans (Same.drewN HS5.out.1 _).2 hb6) HKR5.out hkp
  clear hp6 hb6
  have hkr:=HKR6.out
  obtain ⟨xe0,xe1,xe2,xf0,xf1,xf2⟩:=cf3 hkr
  have HAT : Hid ((set3 w6 w.heap.size (.int .u8 0) (.string ⟨#[]⟩) (.slice none 0 0)).heap[w.heap.size]? = some (.cells #[.int .u8 0,.string ⟨#[]⟩,.slice none 0 0] 61 (0,0))):=z0q hkr _ _ _
  have HOUT : Hid (OutRF pb tb L stop deep bad w (.error (170,z05 (z01 L stop nx))) (.returned (.agg #[.int .u8 0,.string ⟨#[]⟩,.slice none 0 0])) (set3 w6 w.heap.size (.int .u8 0) (.string ⟨#[]⟩) (.slice none 0 0))):=⟨show (170 : Int) ≠ 0 by decide,ErF.of (by omega) (HS6.out.set3 (Nat.le_refl _) HB.out _ _ _)⟩
  have hltz:=(Array.getElem?_eq_some_iff.1 hkr).1
  clear hkr
  go_wp2_with fail
  refine bodyPost_ret (results_cell_row rfl _ _ _ _ _ _ _ rfl HAT.out Tryz.underlying61 rfl (by kernel_rfl)) rfl ?_
  rw [HRES.out]
  exact HOUT.out
theorem one220_name (pb tb : Nat) (L : List Tok) (stop : Int) (deep : Nat) (bad : Int) (nx : Nat) (w : World) (h : RP pb tb w L stop nx deep 0 bad) (RES : PRes F) (hlt : nx < L.length) (hR : RES = .ok (.mk 3 L[nx].text [],z01 L stop (nx + 1))) (hk : L[nx].kind = 1) (hn : z3f L[nx].text.data.toList = true) (hq : isT [33] (z01 L stop nx) = false ∧ isT [123] (z01 L stop nx) = false ∧ isT [116,114,117,101] (z01 L stop nx) = false ∧ isT [102,97,108,115,101] (z01 L stop nx) = false) :
 Calls Tryz.prog 220 #[.pointer (some ⟨pb,0,none⟩)] w (OutRF pb tb L stop deep bad w RES):=by
 have hB:=h.base
 have hkp : w.heap.size ≠ pb:=by omega
 have HB:=Lib.hid hB
 have HS1 : Hid (Same pb tb w (w.alloc (.cells #[.int .u8 0,.string ⟨#[]⟩,.slice none 0 0] 61)) L stop nx deep 0 bad):=h.self.alloc _
 have HKR1 : Hid ((w.alloc (.cells #[.int .u8 0,.string ⟨#[]⟩,.slice none 0 0] 61)).heap[w.heap.size]? = some (.cells #[.int .u8 0,.string ⟨#[]⟩,.slice none 0 0] 61 (0,0))):=z06 rfl
 have HRES:=Lib.hid hR
 have HQ:=Lib.hid hq
 have HNM:=Lib.hid (fun W => z4j L[nx].text (by have:=(h.toks _ (List.getElem_mem hlt)).1; omega) W)
 rw [hn] at HNM
 have qk : (L[nx].kind == 1) = true:=by simpa using hk
 clear hR hq hk hn
 have q1:=HQ.out.1
 have q2:=HQ.out.2.1
 have q3:=HQ.out.2.2.1
 have q4:=HQ.out.2.2.2
 clear h hB
 go_enter Tryz.func220,Tryz.ntmps220
 have HM2:=Lib.hid (z0e pb tb L stop nx deep bad ⟨#[33]⟩ (by decide) _ HS1.out.1)
 rw [show (⟨#[33]⟩ : ByteArray).data.toList = [33] from rfl,q1] at HM2
 simp only [Bool.false_eq_true,if_false] at HM2
 go_wp2_with fail
 refine HM2.out.mono ?_
 rintro en w2 ⟨rfl,hs2⟩
 have HS2:=Lib.hid (RP.same HS1.out hs2)
 have HKR2:=Lib.hid (hs2.at HKR1.out hkp)
 clear hs2
 have HI3:=z1t pb tb L stop nx deep bad ⟨#[123]⟩ (by decide) _ HS2.out.1
 rw [show (⟨#[123]⟩ : ByteArray).data.toList = [123] from rfl,q2] at HI3
 have HM3:=Lib.hid (z1i pb tb L stop nx deep 0 bad ⟨#[123]⟩ _ HI3)
 clear HI3
 go_wp2_with fail
 refine HM3.out.mono ?_
 rintro en w3 ⟨rfl,hs2⟩
 have HS3:=Lib.hid (RP.same HS2.out hs2)
 have HKR3:=Lib.hid (hs2.at HKR2.out hkp)
 clear hs2
 have HM4:=Lib.hid (z0e pb tb L stop nx deep bad ⟨#[116,114,117,101]⟩ (by decide) _ HS3.out.1)
 rw [show (⟨#[116,114,117,101]⟩ : ByteArray).data.toList = [116,114,117,101] from rfl,q3] at HM4
 simp only [Bool.false_eq_true,if_false] at HM4
 go_wp2_with fail
 refine HM4.out.mono ?_
 rintro en w4 ⟨rfl,hs2⟩
 have HS4:=Lib.hid (RP.same HS3.out hs2)
 have HKR4:=Lib.hid (hs2.at HKR3.out hkp)
 clear hs2
 have HM5:=Lib.hid (z0e pb tb L stop nx deep bad ⟨#[102,97,108,115,101]⟩ (by decide) _ HS4.out.1)
 rw [show (⟨#[102,97,108,115,101]⟩ : ByteArray).data.toList = [102,97,108,115,101] from rfl,q4] at HM5
 simp only [Bool.false_eq_true,if_false] at HM5
 go_wp2_with fail
 refine HM5.out.mono ?_
 rintro en w5 ⟨rfl,hs2⟩
 have HS5:=Lib.hid (RP.same HS4.out hs2)
 have HKR5:=Lib.hid (hs2.at HKR4.out hkp)
 clear hs2
 clear q1 q2 q3 q4
 obtain ⟨ra,rcap,hblk,hrc⟩:=HS5.out.1.blk
 have x0:=Lib.cell_of_heap hblk 0
 have x2:=Lib.cell_of_heap hblk 2
 have x4:=Lib.cell_of_heap hblk 4
 have f2:=Lib.frozen_of_heap hblk 2
 simp only [List.getElem?_toArray,List.getElem?_cons_zero,List.getElem?_cons_succ] at x0 x2 x4
 have hle:=HS5.out.1.le
 have hlen:=HS5.out.1.len
 rcases hrc with hrc | ⟨rfl,hne,htb,htc⟩
 ·rw [hrc] at hlt; exact absurd hlt (by simp)
 ·have hltI : ((nx : Nat) : Int) < ((L.length : Nat) : Int):=by omega
  obtain ⟨t0,t1,_⟩:=htc nx hlt
  rw [Nat.zero_add] at t0 t1
  have HKQ:=Lib.hid HKR5.out
  have HSN : Hid (∀ qn : Nat,Same pb tb w ((w5.drewN qn).setCell ⟨pb,2,none⟩ (.int .i64 ((nx : Int) + 1))) L stop (nx + 1) deep 0 bad):=fun qn => by
   have hs:=RP.same HS5.out (Same.drewN HS5.out.1 qn)
   exact ⟨hs.1.set (z2u (Bt.refl _ _) _ _) (by omega) (fun a cap hk => by have:=z5x hk 2 (.int .i64 ((nx : Int) + 1)); push_cast; exact this),z2u hs.2 _ _⟩
  have HKN : Hid (∀ qn : Nat,((w5.drewN qn).setCell ⟨pb,2,none⟩ (.int .i64 ((nx : Int) + 1))).heap[w.heap.size]? = some (.cells #[.int .u8 0,.string ⟨#[]⟩,.slice none 0 0] 61 (0,0))):=fun qn => (Below.heap_setCell _ _ _ _ (by simpa using hkp)).trans HKR5.out
  generalize hT : L[nx].text = txt at t1 HRES HNM
  have HTX:=Lib.hid hT
  clear hblk htc hT
  go_wp2_with fail
  go_quiet (first | (go_at_call 95; refine Calls.quiet_of_same (HNM.out _)))
  go_upto_region 13 with fail
  generalize hq6 : World.setCell _ _ _ = w6
  have HS6 : Hid (Same pb tb w w6 L stop (nx + 1) deep 0 bad):=by rw [Hid,← hq6]; exact HSN.out _
  have HKR6 : Hid (w6.heap[w.heap.size]? = some (.cells #[.int .u8 0,.string ⟨#[]⟩,.slice none 0 0] 61 (0,0))):=by rw [Hid,← hq6]; exact HKN.out _
  clear hq6 x0 x2 x4 f2 t0 t1
  obtain ⟨rb,rcb,hblk6,hrc6⟩:=HS6.out.1.blk
  have y0:=Lib.cell_of_heap hblk6 0
  have y2:=Lib.cell_of_heap hblk6 2
  simp only [List.getElem?_toArray,List.getElem?_cons_zero,List.getElem?_cons_succ] at y0 y2
  rcases hrc6 with hrc6 | ⟨rfl,hne6,htb6,htc6⟩
  ·exact absurd hlt (by rw [hrc6]; simp)
  ·have HWK : Hid (IntKind.i64.wrap (nx : Int) = (nx : Int)):=by rw [Hid]; simp [IntKind.wrap,IntKind.bits]; omega
   have y1:=(htc6 nx hlt).2.1
   rw [Nat.zero_add,HTX.out] at y1
   have hkr:=HKR6.out
   obtain ⟨xe0,xe1,xe2,xf0,xf1,xf2⟩:=cf3 hkr
   have HAT : Hid ((set3 w6.drew w.heap.size (.int .u8 3) (.string txt) (.slice none 0 0)).heap[w.heap.size]? = some (.cells #[.int .u8 3,.string txt,.slice none 0 0] 61 (0,0))):=z0q (show w6.drew.heap[w.heap.size]? = _ from HKR6.out) _ _ _
   have HOUT : Hid (OutRF pb tb L stop deep bad w (.ok (.mk 3 txt [],z01 L stop (nx + 1))) (.returned (.agg #[.int .u8 3,.string txt,.slice none 0 0])) (set3 w6.drew w.heap.size (.int .u8 3) (.string txt) (.slice none 0 0))) :=
    ⟨_,nx + 1,rfl,FI.none _ _ _ _ _ _,rfl,HS6.out.drew.set3 (Nat.le_refl _) HB.out _ _ _⟩
   have hltz:=(Array.getElem?_eq_some_iff.1 hkr).1
   have hltI2 : ((nx : Nat) : Int) < ((L.length : Nat) : Int):=by omega
   clear hblk6 htc6 hkr
   go_wp2_with fail
   go_still_tail 13,(by kernel_rfl)
   simp only [HWK.out]
   repeat still_step
   refine wpStill_nil ?_
   change wpList _ _ _ _ _ w6.drew
   go_wp2_with fail
   refine bodyPost_ret (results_cell_row rfl _ _ _ _ _ _ _ rfl HAT.out Tryz.underlying61 rfl (by kernel_rfl)) rfl ?_
   rw [HRES.out]
   exact HOUT.out
def RFormC (pb tb : Nat) (L : List Tok) (stop bad : Int) (d : Nat) : Prop:=∀ (deep nx : Nat) (w : World),deep ≤ 64 → 65 ≤ deep + d → RP pb tb w L stop nx deep 0 bad → Calls Tryz.prog 205 #[.pointer (some ⟨pb,0,none⟩)] w (OutRF pb tb L stop deep bad w (z1e d deep (z01 L stop nx)))
theorem LocA.ne {α : Type} {f : List Tok → PRes α} (h : LocA f) (l : List Tok) (c : Int × Int) (hl : Ends l) (hq : f l = .error c) : c.1 ≠ 0:=by
 have h1:=h l hl
 unfold LoF at h1
 rw [hq] at h1
 cases h1 with
 | err c a r hl he hc h => rcases hc with rfl | ⟨rfl,_⟩ <;> first | (show (170 : Int) ≠ 0; decide) | (show (171 : Int) ≠ 0; decide)
theorem one_ne (d deep : Nat) (l : List Tok) (c : Int × Int) (hl : Ends l) (hq : oneR (z1e d) deep (l.length + 1) l = .error c) : c.1 ≠ 0:=by
 have h1:=one_lo (fm:=z1e d) (deep:=deep) (fun _ => z4m d (deep + 1)) (l.length + 1) l hl (by omega)
 rw [hq] at h1
 cases h1 with
 | err c a r hl he hc h => rcases hc with rfl | ⟨rfl,_⟩ <;> first | (show (170 : Int) ≠ 0; decide) | (show (171 : Int) ≠ 0; decide)
theorem ErF.imp {pb tb : Nat} {L : List Tok} {stop : Int} {P P' : Nat → Int → Prop} {e b : Int} {w w' : World} {en : Ending} (h : ErF pb tb L stop P e b w en w') (hp : ∀ n d,P n d → P' n d) : ErF pb tb L stop P' e b w en w':=by
 obtain ⟨k,s,a,n,c,nx,d,h1,h2,h3⟩:=h
 exact ⟨k,s,a,n,c,nx,d,h1,hp _ _ h2,h3⟩
theorem one220_any (pb tb : Nat) (L : List Tok) (stop bad : Int) (d : Nat) (hform : RFormC pb tb L stop bad d) : ∀ (k deep nx : Nat) (w : World),L.length - nx + 1 < k → deep ≤ 64 → 64 ≤ deep + d → RP pb tb w L stop nx deep 0 bad →
 Calls Tryz.prog 220 #[.pointer (some ⟨pb,0,none⟩)] w (OutRF pb tb L stop deep bad w (oneR (z1e d) deep k (z01 L stop nx))):=by
 intro k
 induction k with
 | zero => intro deep nx w h; omega
 | succ k ih =>
  intro deep nx w hk hd hdd h
  obtain ⟨RES,hR⟩ : ∃ RES,RES = oneR (z1e d) deep (k + 1) (z01 L stop nx):=⟨_,rfl⟩
  rw [← hR]
  rw [z5l] at hR
  cases q1 : isT [123] (z01 L stop nx) with
  | true =>
   rw [if_pos q1] at hR
   have hlt:=z0z (s:=[123]) (by decide) q1
   unfold wthR at hR
   by_cases h64 : deep = 64
   ·subst h64
    rw [if_pos rfl] at hR
    rw [hR]
    refine (one220_deep pb tb L stop bad nx w h q1).mono fun en w' h => ?_
    exact ⟨show (171 : Int) ≠ 0 by decide,h.imp fun n d hd => by omega⟩
   ·rw [if_neg h64,z0p hlt] at hR
    refine one220_in pb tb L stop deep bad nx w h (by omega) RES (z1e d (deep + 1) (z01 L stop (nx + 1))) ?_ hR q1 (fun w' hb hp => hform (deep + 1) (nx + 1) w' (by omega) (by omega) hp)
    intro c hc
    rw [hR] at hc
    refine LocA.ne (LocA.bind (z4m d (deep + 1)) (Q:=fun x r => if isT [125] r then .ok (x,r.tail) else z1k 170 r) fun x => LocA.tl (by decide) (LocA.pure x) LocA.fail) (z01 L stop (nx + 1)) c (z33 ..) hc
  | false =>
   rw [if_neg (by rw [q1]; decide)] at hR
   cases q2 : isT [33] (z01 L stop nx) with
   | true =>
    have hlt:=z0z (s:=[33]) (by decide) q2
    rw [if_pos q2,z0p hlt] at hR
    exact one220_not pb tb L stop deep bad nx w h RES _ hR q2 (fun w' hb hp => ih deep (nx + 1) w' (by omega) hd hdd hp)
   | false =>
    rw [if_neg (by rw [q2]; decide)] at hR
    unfold restR at hR
    cases q3 : isT [116,114,117,101] (z01 L stop nx) with
    | true =>
     have hlt:=z0z (s:=[116,114,117,101]) (by decide) q3
     rw [if_pos q3,z0p hlt] at hR
     exact one220_true pb tb L stop deep bad nx w h RES hR q3
    | false =>
     rw [if_neg (by rw [q3]; decide)] at hR
     cases q4 : isT [102,97,108,115,101] (z01 L stop nx) with
     | true =>
      have hlt:=z0z (s:=[102,97,108,115,101]) (by decide) q4
      rw [if_pos q4,z0p hlt] at hR
      exact one220_false pb tb L stop deep bad nx w h RES hR q4
     | false =>
      rw [if_neg (by rw [q4]; decide)] at hR
      by_cases hlt : nx < L.length
      ·have e:=rest_at (stop:=stop) hlt
       have hR' : RES = if L[nx].kind = 1 ∧ z3f L[nx].text.data.toList = true then .ok (.mk 3 L[nx].text [],z01 L stop (nx + 1)) else .error (170,z05 (z01 L stop nx)):=by
        rw [hR,e]; rfl
       by_cases hk1 : L[nx].kind = 1
       ·cases hn : z3f L[nx].text.data.toList with
        | true =>
         rw [if_pos ⟨hk1,hn⟩] at hR'
         exact one220_name pb tb L stop deep bad nx w h RES hlt hR' hk1 hn ⟨q2,q1,q3,q4⟩
        | false =>
         rw [if_neg (by rw [hn]; simp)] at hR'
         exact one220_noname pb tb L stop deep bad nx w h RES hlt hR' hk1 hn ⟨q2,q1,q3,q4⟩
       ·rw [if_neg (fun h => hk1 h.1)] at hR'
        exact one220_odd pb tb L stop deep bad nx w h RES hlt hR' hk1 ⟨q2,q1,q3,q4⟩
      ·have e:=rest_end (stop:=stop) (Nat.le_of_not_lt hlt)
       have hR' : RES = .error (170,z05 (z01 L stop nx)):=by
        rw [hR,e]; rfl
       exact one220_end pb tb L stop deep bad nx w h RES hR' (Nat.le_of_not_lt hlt) ⟨q2,q1,q3,q4⟩
def allQ (d deep : Nat) (l : List Tok) : PRes F:=z0g [38,38] (fun l => oneR (z1e d) deep (l.length + 1) l) (fun a b => .mk 5 ⟨#[]⟩ [a,b]) l
theorem formula205_any (pb tb : Nat) (L : List Tok) (stop bad : Int) : ∀ d : Nat,RFormC pb tb L stop bad d:=by
 intro d
 induction d with
 | zero => intro deep nx w hd hdd; omega
 | succ d ih =>
  intro deep nx w hd hdd h
  refine z63 pb tb L stop deep bad (allQ d deep) (fun l x r e => z2i (fun l => one_sh (z5n d) deep _ l) l x r e) ?_ nx w h (fun w' nx' hb hp => ?_)
  ·intro l c hl hq
   refine LocA.ne (f:=allQ d deep) (LocA.chn (by decide) fun l hl => ?_) l c hl hq
   refine (one_lo (fm:=z1e d) (fun _ => z4m d (deep + 1)) (l.length + 1) l hl (by omega)).imp ?_
   rintro l' q _ h
   exact h _ (by omega)
  ·refine all216_chain pb tb L stop deep bad (fun l => oneR (z1e d) deep (l.length + 1) l) (fun l x r e => one_sh (z5n d) deep _ l x r e) (fun l c hl hq => one_ne d deep l c hl hq) nx' w' hp (fun w2 nx2 hb2 hp2 => ?_)
   exact one220_any pb tb L stop bad d ih ((z01 L stop nx2).length + 1) deep nx2 w2 (by rw [z0a]; omega) hd (by omega) hp2
theorem z43 (pb tb : Nat) (L : List Tok) (stop : Int) (nx : Nat) (d e b : Int) (he : e ≠ 0) (w : World) (h : RP pb tb w L stop nx d e b) : Calls Tryz.prog 205 #[.pointer (some ⟨pb,0,none⟩)] w (ErF pb tb L stop (fun n d' => n = nx ∧ d' = d) e b w):=by
 have h1 : Same pb tb w (w.alloc (.cells #[.int .u8 0,.string ⟨#[]⟩,.slice none 0 0] 61)) L stop nx d e b:=h.self.alloc _
 refine z4q pb tb L stop _ e b he w h.base ?_
 refine all216_err pb tb L stop _ e b he _ h1.1.base ?_
 exact one220_stuck pb tb L stop nx d e b he _ (h1.1.self.alloc _).1
end Go.Proofs.YtpgdplmndnopbaaGreatDoor
