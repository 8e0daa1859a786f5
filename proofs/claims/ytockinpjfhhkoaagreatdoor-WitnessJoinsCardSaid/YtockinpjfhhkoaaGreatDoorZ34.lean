/- The parser walked: a chain of expressions. (Printed out of PsG.) -/
import Derived.Test.YtockinpjfhhkoaaGreatDoorZ10
import Derived.Test.YtockinpjfhhkoaaGreatDoorZ09
import Derived.Test.YtockinpjfhhkoaaGreatDoorZ02
set_option maxRecDepth 100000
set_option maxHeartbeats 16000000
open List renaming setIfInBounds_toArray → J1, set_cons_zero → J2, set_cons_succ → J3
open Go.Lib renaming cell_of_heap → Jc, hid → Jh
open Go.AllReadyH renaming cons → Jd, nil → Je
open Go renaming wpAnyH_ready → Jr
namespace Go.Proofs.YtockinpjfhhkoaaGreatDoor
open Go.RowKit
structure ChX (pb tb deep kr kv : Nat) (w wr : World) (x : X) (l : List Tok) : Prop where
 acc : ∃ k a n c b o qq lo ls hi hs op,wr.heap[kv]? = some (.cells #[.int .u8 k,.slice a n c,.slice b o qq,.int .i64 lo,.bool ls,.int .i64 hi,.bool hs,.bool op] 47 (0,0)) ∧ XI (pC w.heap.size kr kv) wr x (.agg #[.int .u8 k,.slice a n c,.slice b o qq,.int .i64 lo,.bool ls,.int .i64 hi,.bool hs,.bool op])
 ps : Ps pb tb wr l deep
 bt : BtP pb w wr
 res : wr.heap[kr]? = some (.cells #[.int .u8 0,.slice none 0 0,.slice none 0 0,.int .i64 0,.bool false,.int .i64 0,.bool false,.bool false] 47 (0,0))
theorem z72 (pb tb deep : Nat) (s : ByteArray) (hs : s.data.toList ≠ []) (K : Nat) (first caps : Array Value) (hE : Ent K) (kc : Nat) (kind : Int) (one : List Tok → PRes X) (hsh : ∀ l x r,one l = .ok (x,r) → r.length ≤ l.length)
 (l : List Tok) (w : World) (h : Ps pb tb w l deep) (hk : w.heap[kc]? = some (.cells #[.int .u8 kind] 5 (0,0)))
 (hone : ∀ w' l',BtP pb w w' → Ps pb tb w' l' deep → Calls Tryz.prog K (first ++ caps) w' (OutX pb tb deep w' (one l'))) :
 Calls Tryz.prog 198 #[.pointer (some ⟨pb,0,none⟩),.string s,.func (.func K) first caps,.func (.func 229) #[] #[.pointer (some ⟨kc,0,none⟩)]] w (OutX pb tb deep w (z1s s.data.toList one (z40 kind) l)):=by
 have hkp:=h.other hk (by decide)
 have hpb:=h.lt
 have htb:=h.tb_lt
 obtain ⟨W1,hW1⟩ : ∃ W1,W1 = w.alloc (.cells #[.int .u8 0,.slice none 0 0,.slice none 0 0,.int .i64 0,.bool false,.int .i64 0,.bool false,.bool false] 47):=⟨_,rfl⟩
 have hb1 : BtP pb w W1:=by rw [hW1]; exact (BtP.refl _ _).alloc _
 have hP1 : Ps pb tb W1 l deep:=by rw [hW1]; exact h.alloc _
 have hr1 : W1.heap[w.heap.size]? = some (.cells #[.int .u8 0,.slice none 0 0,.slice none 0 0,.int .i64 0,.bool false,.int .i64 0,.bool false,.bool false] 47 (0,0)):=by rw [hW1]; exact z0b rfl
 have hz1 : W1.heap.size = w.heap.size + 1:=by rw [hW1]; simp
 have hH1:=hone W1 l hb1 hP1
 unfold Ent at hE
 have hE141 : ∀ (args : Array Value) (W : World),(callFunc 229 args).run Tryz.prog W = .ok (.enter 229 args) W:=z1r Tryz.func229 (by kernel_rfl) (by kernel_rfl)
 have HSH:=Jh hsh
 have HON:=Jh hone
 have HKC:=Jh hk
 clear hsh hone hk h
 cases q : one l with
 | error c =>
  rw [q] at hH1
  have HR : Hid (z1s s.data.toList one (z40 kind) l = .error c):=by rw [Hid]; unfold z1s; rw [q]
  rw [HR.out]
  have HO:=Jh hH1
  have HB1:=Jh hb1
  rw [hW1] at HO HB1
  clear q hH1 hb1 hP1 hr1 hz1 hW1
  go_enter Tryz.func198,Tryz.ntmps198
  go_wp2_with fail
  refine HO.out.mono ?_
  rintro e w1 ⟨rfl,hb⟩
  have HB:=Jh (HB1.out.trans hb)
  clear hb
  go_wp2_with fail
  exact ⟨rfl,rfl,HB.out⟩
 | ok xr =>
  obtain ⟨x,r⟩:=xr
  rw [q] at hH1
  have HR : Hid (z1s s.data.toList one (z40 kind) l = z2i s.data.toList one (z40 kind) r.length x r):=by rw [Hid]; unfold z1s; rw [q]
  rw [HR.out]
  have HO:=Jh hH1
  have HB1:=Jh hb1
  have HR1:=Jh hr1
  clear q hH1 hb1 hP1 hr1 HR
  rw [hW1] at HO
  go_enter Tryz.func198,Tryz.ntmps198
  go_wp2_with fail
  refine HO.out.mono ?_
  rintro e w1 ho
  obtain ⟨k1,a1,n1,c1,b1,o1,qq1,lo1,ls1,hi1,hs1,op1,rfl,hf,hp,hb⟩:=OutX.ok ho
  rw [← hW1] at hf hb
  obtain ⟨kv,hkv⟩ : ∃ kv,kv = w1.heap.size:=⟨_,rfl⟩
  have hzb:=hb.2.2.2.1
  have hkr : w.heap.size ≠ kv:=by omega
  have hkvp : kv ≠ pb:=by omega
  have hkvt : tb ≠ kv:=by omega
  have hle : w.heap.size ≤ kv:=by omega
  have H0 : Hid (ChX pb tb deep w.heap.size kv w (w1.alloc (.cells #[.int .u8 k1,.slice a1 n1 c1,.slice b1 o1 qq1,.int .i64 lo1,.bool ls1,.int .i64 hi1,.bool hs1,.bool op1] 47)) x r):=by
   refine ⟨⟨k1,a1,n1,c1,b1,o1,qq1,lo1,ls1,hi1,hs1,op1,z0b hkv,hf.go ⟨by simp,fun b hb' hpn => ⟨?_,Lib.alloc_old _ _ _ hb'⟩⟩⟩,hp.alloc _,(HB1.out.trans hb).alloc _,z1c (hb.at HR1.out (by omega))⟩
   have : W1.heap.size ≤ b:=by simpa [pN] using hpn
   simp only [pC,Bool.and_eq_true,decide_eq_true_eq,bne_iff_ne,ne_eq]
   omega
  have HWB : Hid (w1.alloc (.cells #[.int .u8 k1,.slice a1 n1 c1,.slice b1 o1 qq1,.int .i64 lo1,.bool ls1,.int .i64 hi1,.bool hs1,.bool op1] 47) = w1.alloc (.cells #[.int .u8 k1,.slice a1 n1 c1,.slice b1 o1 qq1,.int .i64 lo1,.bool ls1,.int .i64 hi1,.bool hs1,.bool op1] 47)):=rfl
  clear ho hf hp hb HO HB1 HR1 hW1 hz1 hzb
  go_wp2_with fail
  rw [← hkv]
  clear hkv HWB
  go_loopw [] (fun wr => ∃ (x' : X) (l' : List Tok) (n' : Nat),l'.length ≤ n' ∧ Hid (z2i s.data.toList one (z40 kind) r.length x r = z2i s.data.toList one (z40 kind) n' x' l') ∧ Hid (ChX pb tb deep w.heap.size kv w wr x' l')) (fun wr => z6w pb wr)
  case atStart => exact ⟨x,r,r.length,Nat.le_refl _,rfl,H0⟩
  case round =>
  clear H0
  obtain ⟨x',l',n',hn',HEQ,HC⟩:=hrel
  obtain ⟨k',a',m',c',b',o',qq',lo',ls',hi',hs',op',hkvb,hfi⟩:=HC.out.acc
  have HM:=Jh (z1i pb tb deep l' s hs wr HC.out.ps)
  have HKV:=Jh hkvb
  have HFI:=Jh hfi
  obtain ⟨t0,l0,hl0⟩:=HC.out.ps.ends.cons
  have hn1 : 1 ≤ n':=by rw [hl0] at hn'; simp at hn'; omega
  obtain ⟨n0,rfl⟩ : ∃ n0,n' = n0 + 1:=⟨n' - 1,by omega⟩
  have HL0:=Jh hl0
  clear hkvb hfi hl0 hn1
  cases qi : isT s.data.toList l' with
  | false =>
   rw [qi] at HM
   simp only [Bool.false_eq_true,if_false] at HM
   have HFIN : Hid (z2i s.data.toList one (z40 kind) r.length x r = .ok (x',l')):=by
    rw [Hid,HEQ.out]; simp only [z2i]; rw [qi]; simp
   clear qi
   go_wp2_with fail
   refine HM.out.mono ?_
   rintro e w2 ⟨rfl,hp2,hb2⟩
   have hkv2:=hb2.at HKV.out hkvp
   have hkr2:=hb2.at HC.out.res (by omega)
   obtain ⟨d0,d1,d2,d3,d4,d5,d6,d7⟩:=cc8 hkv2
   obtain ⟨e0,e1,e2,e3,e4,e5,e6,e7,f0,f1,f2,f3,f4,f5,f6,f7⟩:=cf8 hkr2
   have HAT : Hid ((set8 w2 w.heap.size (.int .u8 k') (.slice a' m' c') (.slice b' o' qq') (.int .i64 lo') (.bool ls') (.int .i64 hi') (.bool hs') (.bool op')).heap[w.heap.size]? = some (.cells #[.int .u8 k',.slice a' m' c',.slice b' o' qq',.int .i64 lo',.bool ls',.int .i64 hi',.bool hs',.bool op'] 47 (0,0))):=z23 hkr2 _ _ _ _ _ _ _ _
   have HOUT : Hid (OutX pb tb deep w (.ok (x',l')) (.returned (.agg #[.int .u8 k',.slice a' m' c',.slice b' o' qq',.int .i64 lo',.bool ls',.int .i64 hi',.bool hs',.bool op'])) (set8 w2 w.heap.size (.int .u8 k') (.slice a' m' c') (.slice b' o' qq') (.int .i64 lo') (.bool ls') (.int .i64 hi') (.bool hs') (.bool op'))):=by
    have hbb : BtP pb w w2:=HC.out.bt.trans hb2
    refine ⟨_,rfl,?_,hp2.set8 (by omega) (by omega) _ _ _ _ _ _ _ _,hbb.set8 (Nat.le_refl _) _ _ _ _ _ _ _ _⟩
    refine HFI.out.go ⟨?_,fun b hbz hpc => ?_⟩
    ·rw [z0m]; exact hb2.2.2.2.1
    ·simp only [pC,Bool.and_eq_true,decide_eq_true_eq,bne_iff_ne,ne_eq] at hpc
     exact ⟨by simpa [pN] using hpc.1.1,(z09 _ _ _ _ _ _ _ _ _ _ _ hpc.1.2).trans (hb2.2.2.2.2 b hbz (by omega))⟩
   clear hkv2 hkr2 hp2 hb2
   go_wp2_with fail
   refine bodyPost_ret (results_cell_row rfl _ _ _ _ _ _ _ rfl HAT.out Tryz.underlying47 rfl (by kernel_rfl)) rfl ?_
   rw [HFIN.out]
   exact HOUT.out
  | true =>
   rw [qi] at HM
   simp only [if_true] at HM
   have HSTEP : Hid (z2i s.data.toList one (z40 kind) r.length x r = match one l'.tail with
    | .error e => .error e
    | .ok (y,r') => z2i s.data.toList one (z40 kind) n0 (z40 kind x' y) r'):=by
    rw [Hid,HEQ.out]; simp only [z2i]; rw [qi]; simp only [if_true]; cases one l'.tail <;> rfl
   clear qi
   go_wp2_with fail
   refine HM.out.mono ?_
   rintro e w2 ⟨rfl,hp2,hb2⟩
   have hBW : BtP pb w w2:=HC.out.bt.trans hb2
   have hkv2:=hb2.at HKV.out hkvp
   have HS : Hid (∀ W,BtP pb w2 W → W.cell? ⟨kv,0,none⟩ = some (.int .u8 k') ∧ W.cell? ⟨kv,1,none⟩ = some (.slice a' m' c') ∧ W.cell? ⟨kv,2,none⟩ = some (.slice b' o' qq') ∧ W.cell? ⟨kv,3,none⟩ = some (.int .i64 lo') ∧ W.cell? ⟨kv,4,none⟩ = some (.bool ls') ∧ W.cell? ⟨kv,5,none⟩ = some (.int .i64 hi') ∧ W.cell? ⟨kv,6,none⟩ = some (.bool hs') ∧ W.cell? ⟨kv,7,none⟩ = some (.bool op')):=by
    intro W hW
    have e:=hW.at hkv2 hkvp
    exact ⟨Jc e 0,Jc e 1,Jc e 2,Jc e 3,Jc e 4,Jc e 5,Jc e 6,Jc e 7⟩
   have HCALL:=Jh (HON.out w2.drew l'.tail hBW.drew hp2.drew)
   have HP2:=Jh hp2
   have HBW:=Jh hBW
   have HB2:=Jh hb2
   have HKV2:=Jh hkv2
   have hself : BtP pb w2 w2:=BtP.refl _ _
   clear hp2 hb2 hBW hkv2
   cases q2 : one l'.tail with
   | error c2 =>
    rw [q2] at HCALL HSTEP
    go_wp2_with fail
    refine wrd (by kernel_rfl) HS.out (hself.drew) (fun hHeld => ?_)
    refine wpAnyH_take (i:=0) (v:=?_) rfl (by kernel_rfl) (by kernel_rfl) (by kernel_rfl) (fun _ _ _ h => h) (Or.inl ⟨by kernel_rfl,?_⟩) (by assumption) ?_
    rotate_left
    ·(intro w hSw; (try dsimp only at hSw); go_simp)
     with_reducible rfl
    try simp only [Act.put,J1]
    refine wpAnyH_take (i:=1) (v:=?_) rfl (by kernel_rfl) (by kernel_rfl) (by kernel_rfl) (fun _ _ _ h => h) (Or.inl ⟨by kernel_rfl,?_⟩) (by assumption) ?_
    rotate_left
    ·(intro w hSw; (try dsimp only at hSw); go_simp)
     with_reducible rfl
    try simp only [Act.put]
    refine wpAnyH_take (i:=2) (v:=?_) rfl (by kernel_rfl) (by kernel_rfl) (by kernel_rfl) (fun _ _ _ h => h) (Or.inl ⟨by kernel_rfl,?_⟩) (by assumption) ?_
    rotate_left
    ·(intro w hSw; (try dsimp only at hSw); go_simp)
     with_reducible rfl
    try simp only [Act.put]
    refine Jr (rs:=[3]) (by kernel_rfl) (by simp) ?_
    refine Jd rfl (fun K0 hK => ?_) Je
    go_simp
    refine HCALL.out.mono ?_
    rintro e w3 ⟨rfl,hb3⟩
    have HB3:=Jh (HBW.out.trans hb3)
    clear hb3 hHeld hK
    dsimp only
    go_wp2_with fail
    refine ⟨rfl,?_⟩
    rw [HSTEP.out]
    exact ⟨rfl,HB3.out⟩
   | ok yr =>
    obtain ⟨y,r'⟩:=yr
    rw [q2] at HCALL HSTEP
    have HRL:=Jh (HSH.out _ _ _ q2)
    clear q2
    go_wp2_with fail
    refine wp_region_held_drew (S:=fun _ => True) (by kernel_rfl) trivial (fun hHeld => ?_)
    refine wpAnyH_take (i:=0) (v:=?_) rfl (by kernel_rfl) (by kernel_rfl) (by kernel_rfl) (fun _ _ _ h => h) (Or.inl ⟨by kernel_rfl,?_⟩) (by assumption) ?_
    rotate_left
    ·(intro w hSw; (try dsimp only at hSw); go_simp)
     with_reducible rfl
    try simp only [Act.put,J1]
    refine wpAnyH_take (i:=2) (v:=?_) rfl (by kernel_rfl) (by kernel_rfl) (by kernel_rfl) (fun _ _ _ h => h) (Or.inl ⟨by kernel_rfl,?_⟩) (by assumption) ?_
    rotate_left
    ·(intro w hSw; (try dsimp only at hSw); go_simp)
     with_reducible rfl
    try simp only [Act.put]
    refine Jr (rs:=[1,3]) (by kernel_rfl) (by simp) ?_
    obtain ⟨v0,v1,v2,v3,v4,v5,v6,v7⟩:=HS.out _ hself
    refine Jd rfl (fun K0 hK => ?_) (Jd rfl (fun K0 hK => ?_) Je)
    ·go_simp
     refine hK.out _ _ trivial (fun _ => ?_)
     clear hK K0
     try simp only [Act.put,J1,J2,J3]
     refine Jr (rs:=[3]) (by kernel_rfl) (by simp) ?_
     refine Jd rfl (fun K0 hK => ?_) Je
     go_simp
     refine HCALL.out.mono ?_
     rintro e w3 ho
     obtain ⟨k2,a2,n2,c2,b2,o2,qq2,lo2,ls2,hi2,hs2,op2,rfl,hf2,hp3,hb3⟩:=OutX.ok ho
     dsimp only
     have hkv3:=hb3.at HKV2.out hkvp
     obtain ⟨g0,g1,g2,g3,g4,g5,g6,g7⟩:=cc8 hkv3
     have HF2:=Jh hf2
     have HP3:=Jh hp3
     have HB3:=Jh (HBW.out.trans hb3)
     have HBB:=Jh hb3
     have HKV3:=Jh hkv3
     clear ho hf2 hp3 hb3 hkv3
     refine hK.out _ _ trivial (fun _ => ?_)
     clear hK K0
     try simp only [Act.put,J1,J2,J3]
     refine Jr (rs:=[4]) (by kernel_rfl) (by simp) ?_
     refine Jd rfl (fun K0 hK => ?_) Je
     go_simp
     go_at_call 229
     refine (zau kc kind k' k2 lo' hi' lo2 hi2 ls' hs' op' ls2 hs2 op2 a' a2 b' b2 m' c' n2 c2 o' qq' o2 qq2 w3 (HB3.out.at HKC.out hkp)).mono ?_
     rintro e w4 ⟨rfl,hb4,hg4⟩
     dsimp only
     refine hK.out _ _ trivial (fun _ => ?_)
     clear hK K0
     try simp only [Act.put,J1,J2,J3]
     have hkv4:=(hb4.block _ (Array.getElem?_eq_some_iff.1 HKV3.out).1).trans HKV3.out
     have hkr4:=(BtP.of_below (pb:=pb) hb4).at (HBB.out.at (HB2.out.at HC.out.res (by omega)) (by omega)) (by omega)
     obtain ⟨d0,d1,d2,d3,d4,d5,d6,d7,f0,f1,f2,f3,f4,f5,f6,f7⟩:=cf8 hkv4
     have HNEW : Hid (ChX pb tb deep w.heap.size kv w (set8 w4 kv (.int .u8 kind) (.slice none 0 0) (.slice (some ⟨w3.heap.size + 3,0,none⟩) 2 2) (.int .i64 0) (.bool false) (.int .i64 0) (.bool false) (.bool false)) (z40 kind x' y) r'):=by
      have hsz3:=HB3.out.2.2.2.1
      have hs4:=hb4.size
      have hb24 : BtP pb w2 w4:=HBB.out.trans (.of_below hb4)
      have hlt4:=(Array.getElem?_eq_some_iff.1 hg4).1
      have hkvl:=(Array.getElem?_eq_some_iff.1 HKV2.out).1
      have hfx : XI (pC w.heap.size w.heap.size kv) w4 x' (.agg #[.int .u8 k',.slice a' m' c',.slice b' o' qq',.int .i64 lo',.bool ls',.int .i64 hi',.bool hs',.bool op']):=by
       refine HFI.out.go ⟨?_,fun b hbz hpc => ⟨hpc,?_⟩⟩
       ·exact Nat.le_trans HB2.out.2.2.2.1 hb24.2.2.2.1
       ·simp only [pC,Bool.and_eq_true,decide_eq_true_eq,bne_iff_ne,ne_eq] at hpc
        exact ((HB2.out.trans hb24).2.2.2.2 b hbz (by omega))
      have hfy : XI (pC w.heap.size w.heap.size kv) w4 y (.agg #[.int .u8 k2,.slice a2 n2 c2,.slice b2 o2 qq2,.int .i64 lo2,.bool ls2,.int .i64 hi2,.bool hs2,.bool op2]):=by
       refine HF2.out.go ⟨hs4,fun b hbz hpn => ⟨?_,hb4.block b hbz⟩⟩
       have hpn' : w2.heap.size ≤ b:=of_decide_eq_true (show decide (w2.heap.size ≤ b) = true from hpn)
       have:=HBW.out.2.2.2.1
       simp only [pC,Bool.and_eq_true,decide_eq_true_eq,bne_iff_ne,ne_eq]
       omega
      have hft:=XI.two hfx hfy kind (w3.heap.size + 3) 2 0 none (0,0) (by
       simp only [pC,Bool.and_eq_true,decide_eq_true_eq,bne_iff_ne,ne_eq]
       have:=HBB.out.2.2.2.1
       have h2 : w2.drew.heap.size = w2.heap.size:=rfl
       omega) hg4
      refine ⟨⟨_,_,_,_,_,_,_,_,_,_,_,_,z23 hkv4 _ _ _ _ _ _ _ _,hft.go ⟨by rw [z0m]; exact Nat.le_refl _,fun b hbz hpc => ⟨hpc,z09 _ _ _ _ _ _ _ _ _ _ _ ?_⟩⟩⟩,((HP3.out.below hb4).set8 (fun e => hkvp e.symm) hkvt _ _ _ _ _ _ _ _),((HB3.out.trans (.of_below hb4)).set8 hle _ _ _ _ _ _ _ _),(z09 _ _ _ _ _ _ _ _ _ _ _ hkr).trans hkr4⟩
      simp only [pC,Bool.and_eq_true,decide_eq_true_eq,bne_iff_ne,ne_eq] at hpc
      exact hpc.2
     clear hb4 hg4 hkv4 hkr4
     refine Jr (rs:=[5]) (by kernel_rfl) (by simp) ?_
     refine Jd rfl (fun K0 hK => ?_) Je
     go_simp
     refine hK.out _ _ trivial (fun _ => ?_)
     clear hK K0
     try simp only [Act.put,J1,J2,J3]
     refine wpAnyH_done (by kernel_rfl) ?_ _
     have HLEFT : Hid (z6w pb (set8 w4 kv (.int .u8 kind) (.slice none 0 0) (.slice (some ⟨w3.heap.size + 3,0,none⟩) 2 2) (.int .i64 0) (.bool false) (.int .i64 0) (.bool false) (.bool false)) < z6w pb wr):=by
      rw [Hid,HNEW.out.ps.left,HC.out.ps.left,HL0.out]
      have:=HRL.out
      rw [HL0.out] at this
      simp at this
      simp; omega
     have HLE : Hid (r'.length ≤ n0):=by
      rw [Hid]
      have:=HRL.out
      have h2:=hn'
      rw [HL0.out] at this h2
      simp at this h2
      omega
     clear d0 d1 d2 d3 d4 d5 d6 d7 f0 f1 f2 f3 f4 f5 f6 f7
     go_wp2_with fail
     go_roundw
     case rel => exact ⟨_,r',n0,HLE.out,by rw [Hid,HSTEP.out],HNEW⟩
     case measure => exact HLEFT.out
    ·go_simp
     refine HCALL.out.mono ?_
     rintro e w3 ho
     obtain ⟨k2,a2,n2,c2,b2,o2,qq2,lo2,ls2,hi2,hs2,op2,rfl,hf2,hp3,hb3⟩:=OutX.ok ho
     dsimp only
     have hkv3:=hb3.at HKV2.out hkvp
     obtain ⟨g0,g1,g2,g3,g4,g5,g6,g7⟩:=cc8 hkv3
     have HF2:=Jh hf2
     have HP3:=Jh hp3
     have HB3:=Jh (HBW.out.trans hb3)
     have HBB:=Jh hb3
     have HKV3:=Jh hkv3
     clear ho hf2 hp3 hb3 hkv3
     refine hK.out _ _ trivial (fun _ => ?_)
     clear hK K0
     try simp only [Act.put,J1,J2,J3]
     refine Jr (rs:=[1]) (by kernel_rfl) (by simp) ?_
     refine Jd rfl (fun K0 hK => ?_) Je
     go_simp
     refine hK.out _ _ trivial (fun _ => ?_)
     clear hK K0
     try simp only [Act.put,J1,J2,J3]
     refine Jr (rs:=[4]) (by kernel_rfl) (by simp) ?_
     refine Jd rfl (fun K0 hK => ?_) Je
     go_simp
     go_at_call 229
     refine (zau kc kind k' k2 lo' hi' lo2 hi2 ls' hs' op' ls2 hs2 op2 a' a2 b' b2 m' c' n2 c2 o' qq' o2 qq2 w3 (HB3.out.at HKC.out hkp)).mono ?_
     rintro e w4 ⟨rfl,hb4,hg4⟩
     dsimp only
     refine hK.out _ _ trivial (fun _ => ?_)
     clear hK K0
     try simp only [Act.put,J1,J2,J3]
     have hkv4:=(hb4.block _ (Array.getElem?_eq_some_iff.1 HKV3.out).1).trans HKV3.out
     have hkr4:=(BtP.of_below (pb:=pb) hb4).at (HBB.out.at (HB2.out.at HC.out.res (by omega)) (by omega)) (by omega)
     obtain ⟨d0,d1,d2,d3,d4,d5,d6,d7,f0,f1,f2,f3,f4,f5,f6,f7⟩:=cf8 hkv4
     have HNEW : Hid (ChX pb tb deep w.heap.size kv w (set8 w4 kv (.int .u8 kind) (.slice none 0 0) (.slice (some ⟨w3.heap.size + 3,0,none⟩) 2 2) (.int .i64 0) (.bool false) (.int .i64 0) (.bool false) (.bool false)) (z40 kind x' y) r'):=by
      have hsz3:=HB3.out.2.2.2.1
      have hs4:=hb4.size
      have hb24 : BtP pb w2 w4:=HBB.out.trans (.of_below hb4)
      have hlt4:=(Array.getElem?_eq_some_iff.1 hg4).1
      have hkvl:=(Array.getElem?_eq_some_iff.1 HKV2.out).1
      have hfx : XI (pC w.heap.size w.heap.size kv) w4 x' (.agg #[.int .u8 k',.slice a' m' c',.slice b' o' qq',.int .i64 lo',.bool ls',.int .i64 hi',.bool hs',.bool op']):=by
       refine HFI.out.go ⟨?_,fun b hbz hpc => ⟨hpc,?_⟩⟩
       ·exact Nat.le_trans HB2.out.2.2.2.1 hb24.2.2.2.1
       ·simp only [pC,Bool.and_eq_true,decide_eq_true_eq,bne_iff_ne,ne_eq] at hpc
        exact ((HB2.out.trans hb24).2.2.2.2 b hbz (by omega))
      have hfy : XI (pC w.heap.size w.heap.size kv) w4 y (.agg #[.int .u8 k2,.slice a2 n2 c2,.slice b2 o2 qq2,.int .i64 lo2,.bool ls2,.int .i64 hi2,.bool hs2,.bool op2]):=by
       refine HF2.out.go ⟨hs4,fun b hbz hpn => ⟨?_,hb4.block b hbz⟩⟩
       have hpn' : w2.heap.size ≤ b:=of_decide_eq_true (show decide (w2.heap.size ≤ b) = true from hpn)
       have:=HBW.out.2.2.2.1
       simp only [pC,Bool.and_eq_true,decide_eq_true_eq,bne_iff_ne,ne_eq]
       omega
      have hft:=XI.two hfx hfy kind (w3.heap.size + 3) 2 0 none (0,0) (by
       simp only [pC,Bool.and_eq_true,decide_eq_true_eq,bne_iff_ne,ne_eq]
       have:=HBB.out.2.2.2.1
       have h2 : w2.drew.heap.size = w2.heap.size:=rfl
       omega) hg4
      refine ⟨⟨_,_,_,_,_,_,_,_,_,_,_,_,z23 hkv4 _ _ _ _ _ _ _ _,hft.go ⟨by rw [z0m]; exact Nat.le_refl _,fun b hbz hpc => ⟨hpc,z09 _ _ _ _ _ _ _ _ _ _ _ ?_⟩⟩⟩,((HP3.out.below hb4).set8 (fun e => hkvp e.symm) hkvt _ _ _ _ _ _ _ _),((HB3.out.trans (.of_below hb4)).set8 hle _ _ _ _ _ _ _ _),(z09 _ _ _ _ _ _ _ _ _ _ _ hkr).trans hkr4⟩
      simp only [pC,Bool.and_eq_true,decide_eq_true_eq,bne_iff_ne,ne_eq] at hpc
      exact hpc.2
     clear hb4 hg4 hkv4 hkr4
     refine Jr (rs:=[5]) (by kernel_rfl) (by simp) ?_
     refine Jd rfl (fun K0 hK => ?_) Je
     go_simp
     refine hK.out _ _ trivial (fun _ => ?_)
     clear hK K0
     try simp only [Act.put,J1,J2,J3]
     refine wpAnyH_done (by kernel_rfl) ?_ _
     have HLEFT : Hid (z6w pb (set8 w4 kv (.int .u8 kind) (.slice none 0 0) (.slice (some ⟨w3.heap.size + 3,0,none⟩) 2 2) (.int .i64 0) (.bool false) (.int .i64 0) (.bool false) (.bool false)) < z6w pb wr):=by
      rw [Hid,HNEW.out.ps.left,HC.out.ps.left,HL0.out]
      have:=HRL.out
      rw [HL0.out] at this
      simp at this
      simp; omega
     have HLE : Hid (r'.length ≤ n0):=by
      rw [Hid]
      have:=HRL.out
      have h2:=hn'
      rw [HL0.out] at this h2
      simp at this h2
      omega
     clear d0 d1 d2 d3 d4 d5 d6 d7 f0 f1 f2 f3 f4 f5 f6 f7
     go_wp2_with fail
     go_roundw
     case rel => exact ⟨_,r',n0,HLE.out,by rw [Hid,HSTEP.out],HNEW⟩
     case measure => exact HLEFT.out
end Go.Proofs.YtockinpjfhhkoaaGreatDoor
