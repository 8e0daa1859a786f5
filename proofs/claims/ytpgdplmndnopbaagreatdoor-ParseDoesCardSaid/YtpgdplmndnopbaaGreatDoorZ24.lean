/- The parser walked: a chain of expressions. (Printed out of PsG.) -/
import Derived.Test.YtpgdplmndnopbaaGreatDoorZ05
import Derived.Test.YtpgdplmndnopbaaGreatDoorZ02
set_option maxRecDepth 100000
set_option maxHeartbeats 16000000
namespace Go.Proofs.YtpgdplmndnopbaaGreatDoor
open Go.RowKit
structure ChX (pb tb deep kr kv : Nat) (w wr : World) (x : X) (l : List Tok) : Prop where
 acc : ∃ k a n c b o qq lo ls hi hs op,wr.heap[kv]? = some (.cells #[.int .u8 k,.slice a n c,.slice b o qq,.int .i64 lo,.bool ls,.int .i64 hi,.bool hs,.bool op] 28 (0,0)) ∧ XI (pC w.heap.size kr kv) wr x (.agg #[.int .u8 k,.slice a n c,.slice b o qq,.int .i64 lo,.bool ls,.int .i64 hi,.bool hs,.bool op])
 ps : Ps pb tb wr l deep
 bt : Bt pb w wr
 res : wr.heap[kr]? = some (.cells #[.int .u8 0,.slice none 0 0,.slice none 0 0,.int .i64 0,.bool false,.int .i64 0,.bool false,.bool false] 28 (0,0))
theorem z56 (pb tb deep : Nat) (s : ByteArray) (hs : s.data.toList ≠ []) (K : Nat) (first caps : Array Value) (hE : Ent K) (kc : Nat) (kind : Int) (one : List Tok → PRes X) (hsh : ∀ l x r,one l = .ok (x,r) → r.length ≤ l.length)
 (l : List Tok) (w : World) (h : Ps pb tb w l deep) (hk : w.heap[kc]? = some (.cells #[.int .u8 kind] 5 (0,0)))
 (hone : ∀ w' l',Bt pb w w' → Ps pb tb w' l' deep → Calls Tryz.prog K (first ++ caps) w' (OutX pb tb deep w' (one l'))) :
 Calls Tryz.prog 90 #[.pointer (some ⟨pb,0,none⟩),.string s,.func (.func K) first caps,.func (.func 141) #[] #[.pointer (some ⟨kc,0,none⟩)]] w (OutX pb tb deep w (z0g s.data.toList one (z12 kind) l)):=by
 have hkp:=h.other hk (by decide)
 have hpb:=h.lt
 have htb:=h.tb_lt
 obtain ⟨W1,hW1⟩ : ∃ W1,W1 = w.alloc (.cells #[.int .u8 0,.slice none 0 0,.slice none 0 0,.int .i64 0,.bool false,.int .i64 0,.bool false,.bool false] 28):=⟨_,rfl⟩
 have hb1 : Bt pb w W1:=by rw [hW1]; exact (Bt.refl _ _).alloc _
 have hP1 : Ps pb tb W1 l deep:=by rw [hW1]; exact h.alloc _
 have hr1 : W1.heap[w.heap.size]? = some (.cells #[.int .u8 0,.slice none 0 0,.slice none 0 0,.int .i64 0,.bool false,.int .i64 0,.bool false,.bool false] 28 (0,0)):=by rw [hW1]; exact z06 rfl
 have hz1 : W1.heap.size = w.heap.size + 1:=by rw [hW1]; simp
 have hH1:=hone W1 l hb1 hP1
 unfold Ent at hE
 have hE141 : ∀ (args : Array Value) (W : World),(callFunc 141 args).run Tryz.prog W = .ok (.enter 141 args) W:=z2x Tryz.func141 (by kernel_rfl) (by kernel_rfl)
 have HSH:=Lib.hid hsh
 have HON:=Lib.hid hone
 have HKC:=Lib.hid hk
 clear hsh hone hk h
 cases q : one l with
 | error c =>
  rw [q] at hH1
  have HR : Hid (z0g s.data.toList one (z12 kind) l = .error c):=by rw [Hid]; unfold z0g; rw [q]
  rw [HR.out]
  have HO:=Lib.hid hH1
  have HB1:=Lib.hid hb1
  rw [hW1] at HO HB1
  clear q hH1 hb1 hP1 hr1 hz1 hW1
  go_enter Tryz.func90,Tryz.ntmps90
  go_wp2_with fail
  refine HO.out.mono ?_
  rintro e w1 ⟨rfl,hb⟩
  have HB:=Lib.hid (HB1.out.trans hb)
  clear hb
  go_wp2_with fail
  exact ⟨rfl,rfl,HB.out⟩
 | ok xr =>
  obtain ⟨x,r⟩:=xr
  rw [q] at hH1
  have HR : Hid (z0g s.data.toList one (z12 kind) l = z0n s.data.toList one (z12 kind) r.length x r):=by rw [Hid]; unfold z0g; rw [q]
  rw [HR.out]
  have HO:=Lib.hid hH1
  have HB1:=Lib.hid hb1
  have HR1:=Lib.hid hr1
  clear q hH1 hb1 hP1 hr1 HR
  rw [hW1] at HO
  go_enter Tryz.func90,Tryz.ntmps90
  go_wp2_with fail
  refine HO.out.mono ?_
  rintro e w1 ho
  obtain ⟨k1,a1,n1,c1,b1,o1,qq1,lo1,ls1,hi1,hs1,op1,rfl,hf,hp,hb⟩:=OutX.ok ho
  rw [← hW1] at hf hb
  obtain ⟨kv,hkv⟩ : ∃ kv,kv = w1.heap.size:=⟨_,rfl⟩
  have hzb:=hb.2.2.2.1
  have hkr : w.heap.size ≠ kv:=by omega
  have hkvp : kv ≠ pb:=by omega
  have hkvt : tb ≠ kv:=by omega
  have hle : w.heap.size ≤ kv:=by omega
  have H0 : Hid (ChX pb tb deep w.heap.size kv w (w1.alloc (.cells #[.int .u8 k1,.slice a1 n1 c1,.slice b1 o1 qq1,.int .i64 lo1,.bool ls1,.int .i64 hi1,.bool hs1,.bool op1] 28)) x r):=by
   refine ⟨⟨k1,a1,n1,c1,b1,o1,qq1,lo1,ls1,hi1,hs1,op1,z06 hkv,hf.go ⟨by simp,fun b hb' hpn => ⟨?_,Lib.alloc_old _ _ _ hb'⟩⟩⟩,hp.alloc _,(HB1.out.trans hb).alloc _,z0d (hb.at HR1.out (by omega))⟩
   have : W1.heap.size ≤ b:=by simpa [pN] using hpn
   simp only [pC,Bool.and_eq_true,decide_eq_true_eq,bne_iff_ne,ne_eq]
   omega
  have HWB : Hid (w1.alloc (.cells #[.int .u8 k1,.slice a1 n1 c1,.slice b1 o1 qq1,.int .i64 lo1,.bool ls1,.int .i64 hi1,.bool hs1,.bool op1] 28) = w1.alloc (.cells #[.int .u8 k1,.slice a1 n1 c1,.slice b1 o1 qq1,.int .i64 lo1,.bool ls1,.int .i64 hi1,.bool hs1,.bool op1] 28)):=rfl
  clear ho hf hp hb HO HB1 HR1 hW1 hz1 hzb
  go_wp2_with fail
  rw [← hkv]
  clear hkv HWB
  go_loopw [] (fun wr => ∃ (x' : X) (l' : List Tok) (n' : Nat),l'.length ≤ n' ∧ Hid (z0n s.data.toList one (z12 kind) r.length x r = z0n s.data.toList one (z12 kind) n' x' l') ∧ Hid (ChX pb tb deep w.heap.size kv w wr x' l')) (fun wr => z4w pb wr)
  case atStart => exact ⟨x,r,r.length,Nat.le_refl _,rfl,H0⟩
  case round =>
  clear H0
  obtain ⟨x',l',n',hn',HEQ,HC⟩:=hrel
  obtain ⟨k',a',m',c',b',o',qq',lo',ls',hi',hs',op',hkvb,hfi⟩:=HC.out.acc
  have HM:=Lib.hid (z1s pb tb deep l' s hs wr HC.out.ps)
  have HKV:=Lib.hid hkvb
  have HFI:=Lib.hid hfi
  obtain ⟨t0,l0,hl0⟩:=HC.out.ps.ends.cons
  have hn1 : 1 ≤ n':=by rw [hl0] at hn'; simp at hn'; omega
  obtain ⟨n0,rfl⟩ : ∃ n0,n' = n0 + 1:=⟨n' - 1,by omega⟩
  have HL0:=Lib.hid hl0
  clear hkvb hfi hl0 hn1
  cases qi : isT s.data.toList l' with
  | false =>
   rw [qi] at HM
   simp only [Bool.false_eq_true,if_false] at HM
   have HFIN : Hid (z0n s.data.toList one (z12 kind) r.length x r = .ok (x',l')):=by
    rw [Hid,HEQ.out]; simp only [z0n]; rw [qi]; simp
   clear qi
   go_wp2_with fail
   refine HM.out.mono ?_
   rintro e w2 ⟨rfl,hp2,hb2⟩
   have hkv2:=hb2.at HKV.out hkvp
   have hkr2:=hb2.at HC.out.res (by omega)
   obtain ⟨d0,d1,d2,d3,d4,d5,d6,d7⟩:=cc8 hkv2
   obtain ⟨e0,e1,e2,e3,e4,e5,e6,e7,f0,f1,f2,f3,f4,f5,f6,f7⟩:=cf8 hkr2
   have HAT : Hid ((set8 w2 w.heap.size (.int .u8 k') (.slice a' m' c') (.slice b' o' qq') (.int .i64 lo') (.bool ls') (.int .i64 hi') (.bool hs') (.bool op')).heap[w.heap.size]? = some (.cells #[.int .u8 k',.slice a' m' c',.slice b' o' qq',.int .i64 lo',.bool ls',.int .i64 hi',.bool hs',.bool op'] 28 (0,0))):=z0c hkr2 _ _ _ _ _ _ _ _
   have HOUT : Hid (OutX pb tb deep w (.ok (x',l')) (.returned (.agg #[.int .u8 k',.slice a' m' c',.slice b' o' qq',.int .i64 lo',.bool ls',.int .i64 hi',.bool hs',.bool op'])) (set8 w2 w.heap.size (.int .u8 k') (.slice a' m' c') (.slice b' o' qq') (.int .i64 lo') (.bool ls') (.int .i64 hi') (.bool hs') (.bool op'))):=by
    have hbb : Bt pb w w2:=HC.out.bt.trans hb2
    refine ⟨_,rfl,?_,hp2.set8 (by omega) (by omega) _ _ _ _ _ _ _ _,hbb.set8 (Nat.le_refl _) _ _ _ _ _ _ _ _⟩
    refine HFI.out.go ⟨?_,fun b hbz hpc => ?_⟩
    ·rw [z0b]; exact hb2.2.2.2.1
    ·simp only [pC,Bool.and_eq_true,decide_eq_true_eq,bne_iff_ne,ne_eq] at hpc
     exact ⟨by simpa [pN] using hpc.1.1,(z03 _ _ _ _ _ _ _ _ _ _ _ hpc.1.2).trans (hb2.2.2.2.2 b hbz (by omega))⟩
   clear hkv2 hkr2 hp2 hb2
   go_wp2_with fail
   refine bodyPost_ret (results_cell_row rfl _ _ _ _ _ _ _ rfl HAT.out Tryz.underlying28 rfl (by kernel_rfl)) rfl ?_
   rw [HFIN.out]
   exact HOUT.out
  | true =>
   rw [qi] at HM
   simp only [if_true] at HM
   have HSTEP : Hid (z0n s.data.toList one (z12 kind) r.length x r = match one l'.tail with
    | .error e => .error e
    | .ok (y,r') => z0n s.data.toList one (z12 kind) n0 (z12 kind x' y) r'):=by
    rw [Hid,HEQ.out]; simp only [z0n]; rw [qi]; simp only [if_true]; cases one l'.tail <;> rfl
   clear qi
   go_wp2_with fail
   refine HM.out.mono ?_
   rintro e w2 ⟨rfl,hp2,hb2⟩
   have hBW : Bt pb w w2:=HC.out.bt.trans hb2
   have hkv2:=hb2.at HKV.out hkvp
   have HS : Hid (∀ W,Bt pb w2 W → W.cell? ⟨kv,0,none⟩ = some (.int .u8 k') ∧ W.cell? ⟨kv,1,none⟩ = some (.slice a' m' c') ∧ W.cell? ⟨kv,2,none⟩ = some (.slice b' o' qq') ∧ W.cell? ⟨kv,3,none⟩ = some (.int .i64 lo') ∧ W.cell? ⟨kv,4,none⟩ = some (.bool ls') ∧ W.cell? ⟨kv,5,none⟩ = some (.int .i64 hi') ∧ W.cell? ⟨kv,6,none⟩ = some (.bool hs') ∧ W.cell? ⟨kv,7,none⟩ = some (.bool op')):=by
    intro W hW
    have e:=hW.at hkv2 hkvp
    exact ⟨Lib.cell_of_heap e 0,Lib.cell_of_heap e 1,Lib.cell_of_heap e 2,Lib.cell_of_heap e 3,Lib.cell_of_heap e 4,Lib.cell_of_heap e 5,Lib.cell_of_heap e 6,Lib.cell_of_heap e 7⟩
   have HCALL:=Lib.hid (HON.out w2.drew l'.tail hBW.drew hp2.drew)
   have HP2:=Lib.hid hp2
   have HBW:=Lib.hid hBW
   have HB2:=Lib.hid hb2
   have HKV2:=Lib.hid hkv2
   have hself : Bt pb w2 w2:=Bt.refl _ _
   clear hp2 hb2 hBW hkv2
   cases q2 : one l'.tail with
   | error c2 =>
    rw [q2] at HCALL HSTEP
    go_wp2_with fail
    refine wp_region_held_drew (S:=fun W => W.cell? ⟨kv,0,none⟩ = some (.int .u8 k') ∧ W.cell? ⟨kv,1,none⟩ = some (.slice a' m' c') ∧ W.cell? ⟨kv,2,none⟩ = some (.slice b' o' qq') ∧ W.cell? ⟨kv,3,none⟩ = some (.int .i64 lo') ∧ W.cell? ⟨kv,4,none⟩ = some (.bool ls') ∧ W.cell? ⟨kv,5,none⟩ = some (.int .i64 hi') ∧ W.cell? ⟨kv,6,none⟩ = some (.bool hs') ∧ W.cell? ⟨kv,7,none⟩ = some (.bool op')) (by kernel_rfl) (HS.out _ hself.drew) (fun hHeld => ?_)
    refine wpAnyH_take (i:=0) (v:=?_) rfl (by kernel_rfl) (by kernel_rfl) (by kernel_rfl) (fun _ _ _ h => h) (Or.inl ⟨by kernel_rfl,?_⟩) (by assumption) ?_
    rotate_left
    ·(intro w hSw; (try dsimp only at hSw); go_simp)
     with_reducible rfl
    try simp only [Act.put,List.setIfInBounds_toArray]
    refine wpAnyH_take (i:=1) (v:=?_) rfl (by kernel_rfl) (by kernel_rfl) (by kernel_rfl) (fun _ _ _ h => h) (Or.inl ⟨by kernel_rfl,?_⟩) (by assumption) ?_
    rotate_left
    ·(intro w hSw; (try dsimp only at hSw); go_simp)
     with_reducible rfl
    try simp only [Act.put]
    refine wpAnyH_take (i:=2) (v:=?_) rfl (by kernel_rfl) (by kernel_rfl) (by kernel_rfl) (fun _ _ _ h => h) (Or.inl ⟨by kernel_rfl,?_⟩) (by assumption) ?_
    rotate_left
    ·(intro w hSw; (try dsimp only at hSw); go_simp)
     with_reducible rfl
    try simp only [Act.put]
    refine wpAnyH_ready (rs:=[3]) (by kernel_rfl) (by simp) ?_
    refine AllReadyH.cons rfl (fun K0 hK => ?_) AllReadyH.nil
    go_simp
    refine HCALL.out.mono ?_
    rintro e w3 ⟨rfl,hb3⟩
    have HB3:=Lib.hid (HBW.out.trans hb3)
    clear hb3 hHeld hK
    dsimp only
    go_wp2_with fail
    refine ⟨rfl,?_⟩
    rw [HSTEP.out]
    exact ⟨rfl,HB3.out⟩
   | ok yr =>
    obtain ⟨y,r'⟩:=yr
    rw [q2] at HCALL HSTEP
    have HRL:=Lib.hid (HSH.out _ _ _ q2)
    clear q2
    go_wp2_with fail
    refine wp_region_held_drew (S:=fun _ => True) (by kernel_rfl) trivial (fun hHeld => ?_)
    refine wpAnyH_take (i:=0) (v:=?_) rfl (by kernel_rfl) (by kernel_rfl) (by kernel_rfl) (fun _ _ _ h => h) (Or.inl ⟨by kernel_rfl,?_⟩) (by assumption) ?_
    rotate_left
    ·(intro w hSw; (try dsimp only at hSw); go_simp)
     with_reducible rfl
    try simp only [Act.put,List.setIfInBounds_toArray]
    refine wpAnyH_take (i:=2) (v:=?_) rfl (by kernel_rfl) (by kernel_rfl) (by kernel_rfl) (fun _ _ _ h => h) (Or.inl ⟨by kernel_rfl,?_⟩) (by assumption) ?_
    rotate_left
    ·(intro w hSw; (try dsimp only at hSw); go_simp)
     with_reducible rfl
    try simp only [Act.put]
    refine wpAnyH_ready (rs:=[1,3]) (by kernel_rfl) (by simp) ?_
    obtain ⟨v0,v1,v2,v3,v4,v5,v6,v7⟩:=HS.out _ hself
    refine AllReadyH.cons rfl (fun K0 hK => ?_) (AllReadyH.cons rfl (fun K0 hK => ?_) AllReadyH.nil)
    ·go_simp
     refine hK.out _ _ trivial (fun _ => ?_)
     clear hK K0
     try simp only [Act.put,List.setIfInBounds_toArray,List.set_cons_zero,List.set_cons_succ]
     refine wpAnyH_ready (rs:=[3]) (by kernel_rfl) (by simp) ?_
     refine AllReadyH.cons rfl (fun K0 hK => ?_) AllReadyH.nil
     go_simp
     refine HCALL.out.mono ?_
     rintro e w3 ho
     obtain ⟨k2,a2,n2,c2,b2,o2,qq2,lo2,ls2,hi2,hs2,op2,rfl,hf2,hp3,hb3⟩:=OutX.ok ho
     dsimp only
     have hkv3:=hb3.at HKV2.out hkvp
     obtain ⟨g0,g1,g2,g3,g4,g5,g6,g7⟩:=cc8 hkv3
     have HF2:=Lib.hid hf2
     have HP3:=Lib.hid hp3
     have HB3:=Lib.hid (HBW.out.trans hb3)
     have HBB:=Lib.hid hb3
     have HKV3:=Lib.hid hkv3
     clear ho hf2 hp3 hb3 hkv3
     refine hK.out _ _ trivial (fun _ => ?_)
     clear hK K0
     try simp only [Act.put,List.setIfInBounds_toArray,List.set_cons_zero,List.set_cons_succ]
     refine wpAnyH_ready (rs:=[4]) (by kernel_rfl) (by simp) ?_
     refine AllReadyH.cons rfl (fun K0 hK => ?_) AllReadyH.nil
     go_simp
     go_at_call 141
     refine (z6u kc kind k' k2 lo' hi' lo2 hi2 ls' hs' op' ls2 hs2 op2 a' a2 b' b2 m' c' n2 c2 o' qq' o2 qq2 w3 (HB3.out.at HKC.out hkp)).mono ?_
     rintro e w4 ⟨rfl,hb4,hg4⟩
     dsimp only
     refine hK.out _ _ trivial (fun _ => ?_)
     clear hK K0
     try simp only [Act.put,List.setIfInBounds_toArray,List.set_cons_zero,List.set_cons_succ]
     have hkv4:=(hb4.block _ (Array.getElem?_eq_some_iff.1 HKV3.out).1).trans HKV3.out
     have hkr4:=(Bt.of_below (pb:=pb) hb4).at (HBB.out.at (HB2.out.at HC.out.res (by omega)) (by omega)) (by omega)
     obtain ⟨d0,d1,d2,d3,d4,d5,d6,d7,f0,f1,f2,f3,f4,f5,f6,f7⟩:=cf8 hkv4
     have HNEW : Hid (ChX pb tb deep w.heap.size kv w (set8 w4 kv (.int .u8 kind) (.slice none 0 0) (.slice (some ⟨w3.heap.size + 3,0,none⟩) 2 2) (.int .i64 0) (.bool false) (.int .i64 0) (.bool false) (.bool false)) (z12 kind x' y) r'):=by
      have hsz3:=HB3.out.2.2.2.1
      have hs4:=hb4.size
      have hb24 : Bt pb w2 w4:=HBB.out.trans (.of_below hb4)
      have hlt4:=(Array.getElem?_eq_some_iff.1 hg4).1
      have hkvl:=(Array.getElem?_eq_some_iff.1 HKV2.out).1
      have hfx : XI (pC w.heap.size w.heap.size kv) w4 x' (.agg #[.int .u8 k',.slice a' m' c',.slice b' o' qq',.int .i64 lo',.bool ls',.int .i64 hi',.bool hs',.bool op']):=by
       refine HFI.out.go ⟨?_,fun b hbz hpc => ⟨hpc,?_⟩⟩
       ·exact Nat.le_trans HB2.out.2.2.2.1 hb24.2.2.2.1
       ·simp only [pC,Bool.and_eq_true,decide_eq_true_eq,bne_iff_ne,ne_eq] at hpc
        exact ((HB2.out.trans hb24).2.2.2.2 b hbz (by omega))
      have hfy : XI (pC w.heap.size w.heap.size kv) w4 y (.agg #[.int .u8 k2,.slice a2 n2 c2,.slice b2 o2 qq2,.int .i64 lo2,.bool ls2,.int .i64 hi2,.bool hs2,.bool op2]):=by
       refine HF2.out.go ⟨hs4,fun b hbz hpn => ⟨?_,hb4.block b hbz⟩⟩
       have hpn' : w2.heap.size ≤ b:=of_decide_eq_true (show decide (w2.heap.size ≤ b) = true from hpn)
       have:=HBW.out.2.2.2.1
       simp only [pC,Bool.and_eq_true,decide_eq_true_eq,bne_iff_ne,ne_eq]
       omega
      have hft:=XI.two hfx hfy kind (w3.heap.size + 3) 2 0 none (0,0) (by
       simp only [pC,Bool.and_eq_true,decide_eq_true_eq,bne_iff_ne,ne_eq]
       have:=HBB.out.2.2.2.1
       have h2 : w2.drew.heap.size = w2.heap.size:=rfl
       omega) hg4
      refine ⟨⟨_,_,_,_,_,_,_,_,_,_,_,_,z0c hkv4 _ _ _ _ _ _ _ _,hft.go ⟨by rw [z0b]; exact Nat.le_refl _,fun b hbz hpc => ⟨hpc,z03 _ _ _ _ _ _ _ _ _ _ _ ?_⟩⟩⟩,((HP3.out.below hb4).set8 (fun e => hkvp e.symm) hkvt _ _ _ _ _ _ _ _),((HB3.out.trans (.of_below hb4)).set8 hle _ _ _ _ _ _ _ _),(z03 _ _ _ _ _ _ _ _ _ _ _ hkr).trans hkr4⟩
      simp only [pC,Bool.and_eq_true,decide_eq_true_eq,bne_iff_ne,ne_eq] at hpc
      exact hpc.2
     clear hb4 hg4 hkv4 hkr4
     refine wpAnyH_ready (rs:=[5]) (by kernel_rfl) (by simp) ?_
     refine AllReadyH.cons rfl (fun K0 hK => ?_) AllReadyH.nil
     go_simp
     refine hK.out _ _ trivial (fun _ => ?_)
     clear hK K0
     try simp only [Act.put,List.setIfInBounds_toArray,List.set_cons_zero,List.set_cons_succ]
     refine wpAnyH_done (by kernel_rfl) ?_ _
     have HLEFT : Hid (z4w pb (set8 w4 kv (.int .u8 kind) (.slice none 0 0) (.slice (some ⟨w3.heap.size + 3,0,none⟩) 2 2) (.int .i64 0) (.bool false) (.int .i64 0) (.bool false) (.bool false)) < z4w pb wr):=by
      rw [Hid,HNEW.out.ps.left,HC.out.ps.left,HL0.out]
      have:=HRL.out
      rw [HL0.out] at this
      simp at this
      simp; omega
     have HLE : Hid (r'.length ≤ n0):=by
      rw [Hid]
      have:=HRL.out
      have h2:=hn'
      rw [HL0.out] at this h2
      simp at this h2
      omega
     clear d0 d1 d2 d3 d4 d5 d6 d7 f0 f1 f2 f3 f4 f5 f6 f7
     go_wp2_with fail
     go_roundw
     case rel => exact ⟨_,r',n0,HLE.out,by rw [Hid,HSTEP.out],HNEW⟩
     case measure => exact HLEFT.out
    ·go_simp
     refine HCALL.out.mono ?_
     rintro e w3 ho
     obtain ⟨k2,a2,n2,c2,b2,o2,qq2,lo2,ls2,hi2,hs2,op2,rfl,hf2,hp3,hb3⟩:=OutX.ok ho
     dsimp only
     have hkv3:=hb3.at HKV2.out hkvp
     obtain ⟨g0,g1,g2,g3,g4,g5,g6,g7⟩:=cc8 hkv3
     have HF2:=Lib.hid hf2
     have HP3:=Lib.hid hp3
     have HB3:=Lib.hid (HBW.out.trans hb3)
     have HBB:=Lib.hid hb3
     have HKV3:=Lib.hid hkv3
     clear ho hf2 hp3 hb3 hkv3
     refine hK.out _ _ trivial (fun _ => ?_)
     clear hK K0
     try simp only [Act.put,List.setIfInBounds_toArray,List.set_cons_zero,List.set_cons_succ]
     refine wpAnyH_ready (rs:=[1]) (by kernel_rfl) (by simp) ?_
     refine AllReadyH.cons rfl (fun K0 hK => ?_) AllReadyH.nil
     go_simp
     refine hK.out _ _ trivial (fun _ => ?_)
     clear hK K0
     try simp only [Act.put,List.setIfInBounds_toArray,List.set_cons_zero,List.set_cons_succ]
     refine wpAnyH_ready (rs:=[4]) (by kernel_rfl) (by simp) ?_
     refine AllReadyH.cons rfl (fun K0 hK => ?_) AllReadyH.nil
     go_simp
     go_at_call 141
     refine (z6u kc kind k' k2 lo' hi' lo2 hi2 ls' hs' op' ls2 hs2 op2 a' a2 b' b2 m' c' n2 c2 o' qq' o2 qq2 w3 (HB3.out.at HKC.out hkp)).mono ?_
     rintro e w4 ⟨rfl,hb4,hg4⟩
     dsimp only
     refine hK.out _ _ trivial (fun _ => ?_)
     clear hK K0
     try simp only [Act.put,List.setIfInBounds_toArray,List.set_cons_zero,List.set_cons_succ]
     have hkv4:=(hb4.block _ (Array.getElem?_eq_some_iff.1 HKV3.out).1).trans HKV3.out
     have hkr4:=(Bt.of_below (pb:=pb) hb4).at (HBB.out.at (HB2.out.at HC.out.res (by omega)) (by omega)) (by omega)
     obtain ⟨d0,d1,d2,d3,d4,d5,d6,d7,f0,f1,f2,f3,f4,f5,f6,f7⟩:=cf8 hkv4
     have HNEW : Hid (ChX pb tb deep w.heap.size kv w (set8 w4 kv (.int .u8 kind) (.slice none 0 0) (.slice (some ⟨w3.heap.size + 3,0,none⟩) 2 2) (.int .i64 0) (.bool false) (.int .i64 0) (.bool false) (.bool false)) (z12 kind x' y) r'):=by
      have hsz3:=HB3.out.2.2.2.1
      have hs4:=hb4.size
      have hb24 : Bt pb w2 w4:=HBB.out.trans (.of_below hb4)
      have hlt4:=(Array.getElem?_eq_some_iff.1 hg4).1
      have hkvl:=(Array.getElem?_eq_some_iff.1 HKV2.out).1
      have hfx : XI (pC w.heap.size w.heap.size kv) w4 x' (.agg #[.int .u8 k',.slice a' m' c',.slice b' o' qq',.int .i64 lo',.bool ls',.int .i64 hi',.bool hs',.bool op']):=by
       refine HFI.out.go ⟨?_,fun b hbz hpc => ⟨hpc,?_⟩⟩
       ·exact Nat.le_trans HB2.out.2.2.2.1 hb24.2.2.2.1
       ·simp only [pC,Bool.and_eq_true,decide_eq_true_eq,bne_iff_ne,ne_eq] at hpc
        exact ((HB2.out.trans hb24).2.2.2.2 b hbz (by omega))
      have hfy : XI (pC w.heap.size w.heap.size kv) w4 y (.agg #[.int .u8 k2,.slice a2 n2 c2,.slice b2 o2 qq2,.int .i64 lo2,.bool ls2,.int .i64 hi2,.bool hs2,.bool op2]):=by
       refine HF2.out.go ⟨hs4,fun b hbz hpn => ⟨?_,hb4.block b hbz⟩⟩
       have hpn' : w2.heap.size ≤ b:=of_decide_eq_true (show decide (w2.heap.size ≤ b) = true from hpn)
       have:=HBW.out.2.2.2.1
       simp only [pC,Bool.and_eq_true,decide_eq_true_eq,bne_iff_ne,ne_eq]
       omega
      have hft:=XI.two hfx hfy kind (w3.heap.size + 3) 2 0 none (0,0) (by
       simp only [pC,Bool.and_eq_true,decide_eq_true_eq,bne_iff_ne,ne_eq]
       have:=HBB.out.2.2.2.1
       have h2 : w2.drew.heap.size = w2.heap.size:=rfl
       omega) hg4
      refine ⟨⟨_,_,_,_,_,_,_,_,_,_,_,_,z0c hkv4 _ _ _ _ _ _ _ _,hft.go ⟨by rw [z0b]; exact Nat.le_refl _,fun b hbz hpc => ⟨hpc,z03 _ _ _ _ _ _ _ _ _ _ _ ?_⟩⟩⟩,((HP3.out.below hb4).set8 (fun e => hkvp e.symm) hkvt _ _ _ _ _ _ _ _),((HB3.out.trans (.of_below hb4)).set8 hle _ _ _ _ _ _ _ _),(z03 _ _ _ _ _ _ _ _ _ _ _ hkr).trans hkr4⟩
      simp only [pC,Bool.and_eq_true,decide_eq_true_eq,bne_iff_ne,ne_eq] at hpc
      exact hpc.2
     clear hb4 hg4 hkv4 hkr4
     refine wpAnyH_ready (rs:=[5]) (by kernel_rfl) (by simp) ?_
     refine AllReadyH.cons rfl (fun K0 hK => ?_) AllReadyH.nil
     go_simp
     refine hK.out _ _ trivial (fun _ => ?_)
     clear hK K0
     try simp only [Act.put,List.setIfInBounds_toArray,List.set_cons_zero,List.set_cons_succ]
     refine wpAnyH_done (by kernel_rfl) ?_ _
     have HLEFT : Hid (z4w pb (set8 w4 kv (.int .u8 kind) (.slice none 0 0) (.slice (some ⟨w3.heap.size + 3,0,none⟩) 2 2) (.int .i64 0) (.bool false) (.int .i64 0) (.bool false) (.bool false)) < z4w pb wr):=by
      rw [Hid,HNEW.out.ps.left,HC.out.ps.left,HL0.out]
      have:=HRL.out
      rw [HL0.out] at this
      simp at this
      simp; omega
     have HLE : Hid (r'.length ≤ n0):=by
      rw [Hid]
      have:=HRL.out
      have h2:=hn'
      rw [HL0.out] at this h2
      simp at this h2
      omega
     clear d0 d1 d2 d3 d4 d5 d6 d7 f0 f1 f2 f3 f4 f5 f6 f7
     go_wp2_with fail
     go_roundw
     case rel => exact ⟨_,r',n0,HLE.out,by rw [Hid,HSTEP.out],HNEW⟩
     case measure => exact HLEFT.out
end Go.Proofs.YtpgdplmndnopbaaGreatDoor
namespace Go.Proofs.YtpgdplmndnopbaaGreatDoor
open Go.RowKit
theorem z1p {P : Program} {fn : Func} {p u : Tmp} {ty : TypeId} (h : fn.results = #[.cell p ty,.tmp u]) (tmps : Array Value) (w : World) (g : Nat) (t : TypeId) (cs : Array Value) (fr : Nat × Nat) (d : TypeDesc) (v : Value)
 (hp : tmps.getD p undef = .pointer (some ⟨g,0,none⟩)) (hv : tmps.getD u undef = v) (hg : w.heap[g]? = some (.cells cs t fr))
 (hu : P.underlying ty = some d) (hd : (match d with | .struct _ | .array _ _ => true | _ => false) = true) (hi : (P.info? ty).map (·.size) = some cs.size) :
 (results fn tmps).run P w = .ok (.tuple #[.agg cs,v]) w:=by
 rw [results_cell_tmp h,hp,hv]
 simp [asAddr,run_loadVar_row w g t ty cs fr d hg hu hd hi]
theorem Ps.set1 {pb tb deep : Nat} {w : World} {l : List Tok} (h : Ps pb tb w l deep) (d : Nat) : Ps pb tb (w.setCell ⟨pb,1,none⟩ (.int .i64 d)) l d ∧ Bt pb w (w.setCell ⟨pb,1,none⟩ (.int .i64 d)):=by
 obtain ⟨off,cap,h1,h2,h3,h4,h5,h6⟩:=h.blk
 have hsz : (w.setCell ⟨pb,1,none⟩ (.int .i64 d)).heap.size = w.heap.size:=by simp [World.setCell]
 have ho : ∀ j,j ≠ pb → (w.setCell ⟨pb,1,none⟩ (.int .i64 d)).heap[j]? = w.heap[j]?:=fun j hj => z02 _ _ _ _ j hj
 exact ⟨⟨⟨off,cap,z09 h1 1 _,h2,h3,h4,by rw [hsz]; exact h5,h6.agree (ho tb h4)⟩,h.ends,h.toks⟩,⟨rfl,rfl,rfl,by rw [hsz]; exact Nat.le_refl _,fun k _ hk => ho k hk⟩⟩
theorem Ps.deepAt {pb tb deep : Nat} {w : World} {l : List Tok} (h : Ps pb tb w l deep) : w.cell? ⟨pb,1,none⟩ = some (.int .i64 deep) ∧ w.frozen? ⟨pb,1,none⟩ = false:=by
 obtain ⟨off,cap,h1,_⟩:=h.blk
 exact ⟨by rw [Lib.cell_of_heap h1]; rfl,Lib.frozen_of_heap h1 1⟩
theorem wrap_up (deep : Nat) (h : deep ≤ 64) : IntKind.i64.wrap ((deep : Int) + 1) = ((deep + 1 : Nat) : Int) ∧ IntKind.i64.wrap (((deep + 1 : Nat) : Int) - 1) = (deep : Int):=by
 constructor <;> (rw [IntWalk.i64_in _ (by omega)]; omega)
def OutWF (pb tb deep : Nat) (w : World) (r : Option (PRes F)) (e : Ending) (w' : World) : Prop :=
 match r with
 | none => ∃ l,e = .returned (.tuple #[.agg #[.int .u8 0,.string ⟨#[]⟩,.slice none 0 0],.bool false]) ∧ Ps pb tb w' l deep ∧ Bt pb w w'
 | some (.ok (x,l')) => ∃ v,e = .returned (.tuple #[v,.bool true]) ∧ FI (pN w.heap.size) w' x v ∧ Ps pb tb w' l' deep ∧ Bt pb w w'
 | some (.error c) => e = .panicked (thr c.1 c.2) ∧ Bt pb w w'
theorem within199_no (pb tb deep : Nat) (o c : ByteArray) (fv : Value) (l : List Tok) (w : World) (h : Ps pb tb w l deep) (hi : isT o.data.toList l = false) :
 Calls Tryz.prog 199 #[.pointer (some ⟨pb,0,none⟩),.string o,.string c,fv] w fun e w' => e = .returned (.tuple #[.agg #[.int .u8 0,.string ⟨#[]⟩,.slice none 0 0],.bool false]) ∧ Ps pb tb w' l deep ∧ Bt pb w w':=by
 have HI:=Lib.hid (z3l pb tb deep l o _ (h.alloc (.cells #[.int .u8 0,.string ⟨#[]⟩,.slice none 0 0] 61)))
 rw [hi] at HI
 have HP:=Lib.hid (h.alloc (.cells #[.int .u8 0,.string ⟨#[]⟩,.slice none 0 0] 61))
 have HB:=Lib.hid ((Bt.refl pb w).alloc (.cells #[.int .u8 0,.string ⟨#[]⟩,.slice none 0 0] 61))
 have HR : Hid ((w.alloc (.cells #[.int .u8 0,.string ⟨#[]⟩,.slice none 0 0] 61)).heap[w.heap.size]? = some (.cells #[.int .u8 0,.string ⟨#[]⟩,.slice none 0 0] 61 (0,0))):=z06 rfl
 have hpb:=h.lt
 have htb : tb ≠ w.heap.size:=Nat.ne_of_lt h.tb_lt
 clear h hi
 go_enter Tryz.func199,Tryz.ntmps199
 go_wp2_with fail
 refine HI.out.mono ?_
 rintro e w1 ⟨rfl,hb⟩
 have HB1:=Lib.hid (HB.out.trans (.of_below hb))
 have HP1:=Lib.hid (HP.out.below hb)
 have hkr:=(Bt.of_below (pb:=pb) hb).at HR.out (by omega)
 obtain ⟨e0,e1,e2,f0,f1,f2⟩:=cf3 hkr
 have hlt:=(Array.getElem?_eq_some_iff.1 hkr).1
 have HAT : Hid ((set3 w1 w.heap.size (.int .u8 0) (.string ⟨#[]⟩) (.slice none 0 0)).heap[w.heap.size]? = some (.cells #[.int .u8 0,.string ⟨#[]⟩,.slice none 0 0] 61 (0,0))):=z0q hkr _ _ _
 have HFIN : Hid (Ps pb tb (set3 w1 w.heap.size (.int .u8 0) (.string ⟨#[]⟩) (.slice none 0 0)) l deep ∧ Bt pb w (set3 w1 w.heap.size (.int .u8 0) (.string ⟨#[]⟩) (.slice none 0 0))) :=
  ⟨HP1.out.set3 (by omega) htb _ _ _,HB1.out.set3 (Nat.le_refl _) _ _ _⟩
 clear hb hkr
 go_wp2_with fail
 refine bodyPost_ret (z1p rfl _ _ _ _ _ _ _ _ rfl rfl HAT.out Tryz.underlying61 rfl (by kernel_rfl)) rfl ?_
 exact ⟨rfl,HFIN.out⟩
theorem within199_deep (pb tb : Nat) (o c : ByteArray) (fv : Value) (l : List Tok) (w : World) (h : Ps pb tb w l 64) (hi : isT o.data.toList l = true) :
 Calls Tryz.prog 199 #[.pointer (some ⟨pb,0,none⟩),.string o,.string c,fv] w fun e w' => e = .panicked (thr 171 (z05 l)) ∧ Bt pb w w':=by
 have HI:=Lib.hid (z3l pb tb 64 l o _ (h.alloc (.cells #[.int .u8 0,.string ⟨#[]⟩,.slice none 0 0] 61)))
 rw [hi] at HI
 have HP:=Lib.hid (h.alloc (.cells #[.int .u8 0,.string ⟨#[]⟩,.slice none 0 0] 61))
 have HB:=Lib.hid ((Bt.refl pb w).alloc (.cells #[.int .u8 0,.string ⟨#[]⟩,.slice none 0 0] 61))
 obtain ⟨⟨tk,ts,tp⟩,lr,rfl⟩:=h.ends.cons
 have HF:=Lib.hid (fun (W : World) (hp : Ps pb tb W (⟨tk,ts,tp⟩ :: lr) 64) => z3j pb tb 64 171 tk ts tp lr W hp)
 clear h hi
 go_enter Tryz.func199,Tryz.ntmps199
 go_wp2_with fail
 refine HI.out.mono ?_
 rintro e w1 ⟨rfl,hb⟩
 have HB1:=Lib.hid (HB.out.trans (.of_below hb))
 have HP1:=Lib.hid (HP.out.below hb)
 obtain ⟨y0,y1⟩:=HP1.out.deepAt
 have hlt:=HP1.out.lt
 clear hb
 go_wp2_with fail
 refine (HF.out _ HP1.out).mono ?_
 rintro e w2 ⟨rfl,hb⟩
 have HB2:=Lib.hid (HB1.out.trans (.of_below hb))
 clear hb
 go_wp2_with fail
 exact ⟨rfl,rfl,HB2.out⟩
theorem within199_in (pb tb deep : Nat) (o c : ByteArray) (ho : o.data.toList ≠ []) (hc : c.data.toList ≠ []) (K : Nat) (first caps : Array Value) (hE : Ent K) (one : Nat → List Tok → PRes F) (l : List Tok) (w : World) (h : Ps pb tb w l deep) (hd : deep < 64) (hi : isT o.data.toList l = true)
 (hone : ∀ w',Bt pb w w' → Ps pb tb w' l.tail (deep + 1) → Calls Tryz.prog K (first ++ caps) w' (OutF pb tb (deep + 1) w' (one (deep + 1) l.tail))) :
 Calls Tryz.prog 199 #[.pointer (some ⟨pb,0,none⟩),.string o,.string c,.func (.func K) first caps] w (OutWF pb tb deep w (z0t o.data.toList c.data.toList deep one l)):=by
 have HI:=Lib.hid (z3l pb tb deep l o _ (h.alloc (.cells #[.int .u8 0,.string ⟨#[]⟩,.slice none 0 0] 61)))
 rw [hi] at HI
 have HP:=Lib.hid (h.alloc (.cells #[.int .u8 0,.string ⟨#[]⟩,.slice none 0 0] 61))
 have HB:=Lib.hid ((Bt.refl pb w).alloc (.cells #[.int .u8 0,.string ⟨#[]⟩,.slice none 0 0] 61))
 have HR : Hid ((w.alloc (.cells #[.int .u8 0,.string ⟨#[]⟩,.slice none 0 0] 61)).heap[w.heap.size]? = some (.cells #[.int .u8 0,.string ⟨#[]⟩,.slice none 0 0] 61 (0,0))):=z06 rfl
 have hpb:=h.lt
 have htb : tb ≠ w.heap.size:=Nat.ne_of_lt h.tb_lt
 obtain ⟨⟨tk,ts,tp⟩,lr,rfl⟩:=h.ends.cons
 have HPASS:=Lib.hid (fun (W : World) (hp : Ps pb tb W (⟨tk,ts,tp⟩ :: lr) deep) => z3k pb tb deep tk ts tp lr W hp (hp.tail_ends ho hi))
 obtain ⟨wr1,wr2⟩:=wrap_up deep (by omega)
 have hq : ((deep : Int) == 64) = false:=by simp; omega
 have HW : Hid (z0t o.data.toList c.data.toList deep one (⟨tk,ts,tp⟩ :: lr) = some (match one (deep + 1) lr with
  | .error e => .error e
  | .ok (x,r) => match z0v c.data.toList r with
   | .error e => .error e
   | .ok r' => .ok (x,r'))):=by
  rw [Hid]; unfold z0t; rw [hi,if_pos rfl,if_neg (by omega)]; simp only [List.tail_cons]
  rcases one (deep + 1) lr with e | ⟨x,r⟩
  ·rfl
  ·simp only
   cases z0v c.data.toList r <;> rfl
 have HONE:=Lib.hid hone
 simp only [List.tail_cons] at HONE
 have HT1:=Lib.hid (fun (W : World) (r : List Tok) (g : Nat) (hp : Ps pb tb W r (deep + 1)) hg ht => z1z pb tb (deep + 1) g r c hc W hp hg ht)
 have HT2:=Lib.hid (fun (W : World) (r : List Tok) (g : Nat) (hp : Ps pb tb W r (deep + 1)) hg ht => z23 pb tb (deep + 1) g r c hc W hp hg ht)
 obtain ⟨RES,hRES⟩ : ∃ RES,RES = z0t o.data.toList c.data.toList deep one (⟨tk,ts,tp⟩ :: lr):=⟨_,rfl⟩
 rw [← hRES]
 have HRES:=Lib.hid (hRES.trans HW.out)
 clear hRES
 unfold Ent at hE
 clear h hi hone ho hc
 go_enter Tryz.func199,Tryz.ntmps199
 go_wp2_with fail
 refine HI.out.mono ?_
 rintro e w1 ⟨rfl,hb⟩
 have HB1:=Lib.hid (HB.out.trans (.of_below hb))
 have HP1:=Lib.hid (HP.out.below hb)
 have HKR1:=Lib.hid ((Bt.of_below (pb:=pb) hb).at HR.out (by omega))
 obtain ⟨y0,y1⟩:=HP1.out.deepAt
 have hlt:=HP1.out.lt
 clear hb
 go_wp2_with fail
 refine (HPASS.out _ HP1.out).mono ?_
 rintro e w2 ⟨rfl,hp2,hb2⟩
 have HB2:=Lib.hid (HB1.out.trans hb2)
 have HKR2:=Lib.hid (hb2.at HKR1.out (by omega))
 obtain ⟨hp3,hb3⟩:=hp2.set1 (deep + 1)
 have HP3:=Lib.hid hp3
 have HB3:=Lib.hid (HB2.out.trans hb3)
 have HKR3:=Lib.hid (hb3.at HKR2.out (by omega))
 obtain ⟨z0,z1⟩:=hp2.deepAt
 have hlt2:=hp2.lt
 clear y0 y1 hlt hp2 hb2 hp3 hb3
 go_wp2_with fail
 have HCALL:=Lib.hid (HONE.out _ HB3.out HP3.out)
 cases q : one (deep + 1) lr with
 | error c2 =>
  have HQ:=Lib.hid q
  rw [q] at HCALL
  refine HCALL.out.mono ?_
  rintro e w4 ⟨rfl,hb⟩
  have HB4:=Lib.hid (HB3.out.trans hb)
  clear hb
  go_wp2_with fail
  refine ⟨rfl,?_⟩
  rw [HRES.out,HQ.out]
  exact ⟨rfl,HB4.out⟩
 | ok xr =>
  obtain ⟨x,r⟩:=xr
  have HQ:=Lib.hid q
  rw [q] at HCALL
  refine HCALL.out.mono ?_
  rintro e w4 ho4
  obtain ⟨k1,s1,a1,n1,c1,rfl,hf,hp4,hb4⟩:=OutF.ok ho4
  have hkr4:=hb4.at HKR3.out (by omega)
  obtain ⟨e0,e1,e2,f0,f1,f2⟩:=cf3 hkr4
  obtain ⟨W5,hW5⟩ : ∃ W5,W5 = set3 w4 w.heap.size (.int .u8 k1) (.string s1) (.slice a1 n1 c1):=⟨_,rfl⟩
  have hsz3 : w.heap.size < (w2.setCell ⟨pb,1,none⟩ (.int .i64 ((deep + 1 : Nat) : Int))).heap.size:=(Array.getElem?_eq_some_iff.1 HKR3.out).1
  have HKR5 : Hid (W5.heap[w.heap.size]? = some (.cells #[.int .u8 k1,.string s1,.slice a1 n1 c1] 61 (0,0))):=by rw [Hid,hW5]; exact z0q hkr4 _ _ _
  have HP5 : Hid (Ps pb tb W5 r (deep + 1)):=by rw [Hid,hW5]; exact hp4.set3 (by omega) htb _ _ _
  have HB5 : Hid (Bt pb w W5):=by rw [Hid,hW5]; exact (HB3.out.trans hb4).set3 (Nat.le_refl _) _ _ _
  have HF5 : Hid (FI (fun b => decide (w.heap.size ≤ b) && b != w.heap.size) W5 x (.agg #[.int .u8 k1,.string s1,.slice a1 n1 c1])):=by
   rw [Hid,hW5]
   refine hf.go ⟨by rw [z0s]; exact Nat.le_refl _,fun b hbz hpn => ?_⟩
   have hpn':=of_decide_eq_true hpn
   refine ⟨?_,z0f _ _ _ _ _ _ (by omega)⟩
   simp only [Bool.and_eq_true,decide_eq_true_eq,bne_iff_ne,ne_eq]
   omega
  have HNW:=Lib.hid hW5
  have HSZ5 : Hid (w4.heap.size = W5.heap.size):=by rw [Hid,hW5,z0s]
  clear hf hp4 hb4 hkr4 ho4 hsz3 q HCALL hW5
  go_wp2_with fail
  have eW : set3 w4 w.heap.size (.int .u8 k1) (.string s1) (.slice a1 n1 c1) = W5:=HNW.out.symm
  unfold set3 at eW
  rw [eW]
  clear eW e0 e1 e2 f0 f1 f2 z0 z1 hlt2
  cases qt : isT c.data.toList r with
  | false =>
   have HTK:=Lib.hid (HT2.out (W5.alloc (.cells #[.string c] 9)) r w4.heap.size (HP5.out.alloc _) (z06 HSZ5.out) qt)
   have HTR : Hid (z0v c.data.toList r = .error (170,z05 r)):=by rw [Hid,z0v,qt]; rfl
   refine HTK.out.mono ?_
   rintro e w6 ⟨rfl,hb6⟩
   have HB6:=Lib.hid ((HB5.out.alloc _).trans hb6)
   clear hb6 qt
   go_wp2_with fail
   refine ⟨rfl,?_⟩
   rw [HRES.out,HQ.out]
   simp only [HTR.out]
   exact ⟨rfl,HB6.out⟩
  | true =>
   have HTK:=Lib.hid (HT1.out (W5.alloc (.cells #[.string c] 9)) r w4.heap.size (HP5.out.alloc _) (z06 HSZ5.out) qt)
   have HTR : Hid (z0v c.data.toList r = .ok r.tail):=by rw [Hid,z0v,qt]; rfl
   refine HTK.out.mono ?_
   rintro e w6 ⟨rfl,hp6,hb6⟩
   have hb56:=(Bt.refl pb W5).alloc (.cells #[.string c] 9) |>.trans hb6
   obtain ⟨hp7,hb7⟩:=hp6.set1 deep
   obtain ⟨z0,z1⟩:=hp6.deepAt
   have hlt6:=hp6.lt
   have hb57:=hb56.trans hb7
   have hkr7:=hb57.at HKR5.out (by omega)
   have hkr6:=hb56.at HKR5.out (by omega)
   obtain ⟨g0,g1,g2,f0,f1,f2⟩:=cf3 hkr7
   obtain ⟨e0,e1,e2,u0,u1,u2⟩:=cf3 hkr6
   have HAT : Hid ((set3 (w6.setCell ⟨pb,1,none⟩ (.int .i64 deep)) w.heap.size (.int .u8 k1) (.string s1) (.slice a1 n1 c1)).heap[w.heap.size]? = some (.cells #[.int .u8 k1,.string s1,.slice a1 n1 c1] 61 (0,0))):=z0q hkr7 _ _ _
   have HFIN : Hid (OutWF pb tb deep w (some (.ok (x,r.tail))) (.returned (.tuple #[.agg #[.int .u8 k1,.string s1,.slice a1 n1 c1],.bool true])) (set3 (w6.setCell ⟨pb,1,none⟩ (.int .i64 deep)) w.heap.size (.int .u8 k1) (.string s1) (.slice a1 n1 c1))):=by
    refine ⟨_,rfl,?_,hp7.set3 (by omega) htb _ _ _,(HB5.out.trans hb57).set3 (Nat.le_refl _) _ _ _⟩
    refine HF5.out.go ⟨?_,fun b hbz hpc => ?_⟩
    ·rw [z0s]; exact hb57.2.2.2.1
    ·simp only [Bool.and_eq_true,decide_eq_true_eq,bne_iff_ne,ne_eq] at hpc
     exact ⟨decide_eq_true hpc.1,(z0f _ _ _ _ _ _ hpc.2).trans (hb57.2.2.2.2 b hbz (by omega))⟩
   clear hp6 hb6 hp7 hb7 hb56 hb57 hkr7 hkr6 qt
   go_wp2_with fail
   refine bodyPost_ret (z1p rfl _ _ _ _ _ _ _ _ rfl rfl HAT.out Tryz.underlying61 rfl (by kernel_rfl)) rfl ?_
   rw [HRES.out,HQ.out]
   simp only [HTR.out]
   exact HFIN.out
end Go.Proofs.YtpgdplmndnopbaaGreatDoor
