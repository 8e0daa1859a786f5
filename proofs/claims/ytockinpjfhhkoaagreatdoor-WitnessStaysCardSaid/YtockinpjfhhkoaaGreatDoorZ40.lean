/- The parser walked: marks of repetition. (Printed by gen_pst.py.) -/
import Derived.Test.YtockinpjfhhkoaaGreatDoorZ39
import Derived.Test.YtockinpjfhhkoaaGreatDoorZ02
set_option maxRecDepth 100000
set_option maxHeartbeats 16000000
open List renaming setIfInBounds_toArray → J1, set_cons_zero → J2, set_cons_succ → J3
open Go.Lib renaming cell_of_heap → Jc, hid → Jh
open Go.AllReadyH renaming cons → Jd, nil → Je
open Go renaming wpAnyH_ready → Jr
namespace Go.Proofs.YtockinpjfhhkoaaGreatDoor
open Go.RowKit
theorem more91_any (pb tb d : Nat) (hp4 : 4 ≤ pb) (htre : TreC pb tb d) (deep : Nat) (l : List Tok) (w : World) (hd : deep ≤ 64) (hdd : 64 ≤ deep + d) (hrd : Rdy w) (h : Ps pb tb w l deep) :
 Calls Tryz.prog 199 #[.pointer (some ⟨pb,0,none⟩)] w (OutX pb tb deep w (z9p (treR d) deep l)):=by
 have hpb:=h.lt
 have htb:=h.tb_lt
 obtain ⟨W1,hW1⟩ : ∃ W1,W1 = w.alloc (.cells #[.int .u8 0,.slice none 0 0,.slice none 0 0,.int .i64 0,.bool false,.int .i64 0,.bool false,.bool false] 47):=⟨_,rfl⟩
 have hb1 : BtP pb w W1:=by rw [hW1]; exact (BtP.refl _ _).alloc _
 have hP1 : Ps pb tb W1 l deep:=by rw [hW1]; exact h.alloc _
 have HR1 : Hid (W1.heap[w.heap.size]? = some (.cells #[.int .u8 0,.slice none 0 0,.slice none 0 0,.int .i64 0,.bool false,.int .i64 0,.bool false,.bool false] 47 (0,0))):=by rw [Hid,hW1]; exact z0b rfl
 have hz1 : W1.heap.size = w.heap.size + 1:=by rw [hW1]; simp
 have HO:=Jh (base140_any pb tb d hp4 htre deep l W1 hd hdd (hrd.bt hp4 hb1) hP1)
 have HB1:=Jh hb1
 have HW1:=Jh hW1.symm
 clear h hb1 hP1 hrd htre hd hdd hW1
 cases q : zax (treR d) deep l with
 | error c =>
  have HR : Hid (z9p (treR d) deep l = .error c):=by rw [Hid]; unfold z9p; rw [q]
  rw [HR.out]
  rw [q] at HO
  clear q HR
  go_enter Tryz.func199,Tryz.ntmps199
  go_wp2_with fail
  rw [HW1.out]
  refine HO.out.mono ?_
  rintro e w1 ⟨rfl,hb⟩
  have HB:=Jh (HB1.out.trans hb)
  clear hb
  go_wp2_with fail
  exact ⟨rfl,rfl,HB.out⟩
 | ok xr =>
  obtain ⟨x,r⟩:=xr
  have HR : Hid (z9p (treR d) deep l = .ok (z9o r.length x r)):=by rw [Hid]; unfold z9p; rw [q]
  rw [HR.out]
  rw [q] at HO
  clear q HR
  go_enter Tryz.func199,Tryz.ntmps199
  go_wp2_with fail
  rw [HW1.out]
  clear HW1
  refine HO.out.mono ?_
  rintro e w1 ho
  obtain ⟨k1,a1,m1,c1,b1,o1,qq1,lo1,ls1,hi1,hs1,op1,rfl,hf,hp,hb⟩:=OutX.ok ho
  obtain ⟨kv,hkv⟩ : ∃ kv,kv = w1.heap.size:=⟨_,rfl⟩
  have hzb:=hb.2.2.2.1
  have hkr : w.heap.size ≠ kv:=by omega
  have hkvp : kv ≠ pb:=by omega
  have hkvt : tb ≠ kv:=by omega
  have hle : w.heap.size ≤ kv:=by omega
  have H0 : Hid (ChX pb tb deep w.heap.size kv w (w1.alloc (.cells #[.int .u8 k1,.slice a1 m1 c1,.slice b1 o1 qq1,.int .i64 lo1,.bool ls1,.int .i64 hi1,.bool hs1,.bool op1] 47)) x r):=by
   refine ⟨⟨k1,a1,m1,c1,b1,o1,qq1,lo1,ls1,hi1,hs1,op1,z0b hkv,hf.go ⟨by simp,fun b hb' hpn => ⟨?_,Lib.alloc_old _ _ _ hb'⟩⟩⟩,hp.alloc _,(HB1.out.trans hb).alloc _,z1c (hb.at HR1.out (by omega))⟩
   have : W1.heap.size ≤ b:=by simpa [pN] using hpn
   simp only [pC,Bool.and_eq_true,decide_eq_true_eq,bne_iff_ne,ne_eq]
   omega
  have HKQ:=Jh hkv.symm
  clear ho hf hp hb HO HB1 HR1 hz1 hzb hkv
  go_wp2_with fail
  rw [HKQ.out]
  clear HKQ
  go_loopw [] (fun wr => ∃ (x' : X) (l' : List Tok) (n' : Nat),l'.length ≤ n' ∧ Hid (z9o r.length x r = z9o n' x' l') ∧ Hid (ChX pb tb deep w.heap.size kv w wr x' l')) (fun wr => z6w pb wr)
  case atStart => exact ⟨x,r,r.length,Nat.le_refl _,rfl,H0⟩
  case round =>
  clear H0
  obtain ⟨x',l',n',hn',HEQ,HC⟩:=hrel
  obtain ⟨k',a',m',c',b',o',qq',lo',ls',hi',hs',op',hkvb,hfi⟩:=HC.out.acc
  have HM:=Jh (z1i pb tb deep l' ⟨#[43]⟩ (by decide) wr HC.out.ps)
  have HM : Hid (Calls Tryz.prog 227 #[.pointer (some ⟨pb,0,none⟩),.string ⟨#[43]⟩] wr fun e w' => e = .returned (.bool (isT [43] l')) ∧ Ps pb tb w' (if isT [43] l' then l'.tail else l') deep ∧ BtP pb wr w'):=HM
  have HKV:=Jh hkvb
  have HFI:=Jh hfi
  obtain ⟨t0,l0,hl0⟩:=HC.out.ps.ends.cons
  have hn1 : 1 ≤ n':=by rw [hl0] at hn'; simp at hn'; omega
  obtain ⟨n0,rfl⟩ : ∃ n0,n' = n0 + 1:=⟨n' - 1,by omega⟩
  have HL0:=Jh hl0
  have HN':=Jh hn'
  clear hkvb hfi hl0 hn1 hn'
  cases qi : isT [43] l' with
  | false =>
   rw [qi] at HM
   simp only [Bool.false_eq_true,if_false] at HM
   have HFIN : Hid (z9o r.length x r = (x',l')):=by
    rw [Hid,HEQ.out]; simp only [z9o]; rw [qi]; simp
   clear qi
   go_wp2_with fail
   refine HM.out.mono ?_
   rintro e w2 ⟨rfl,hp2,hb2⟩
   have hkv2:=hb2.at HKV.out hkvp
   have hkr2:=hb2.at HC.out.res (by omega)
   obtain ⟨d0,d1,d2,d3,d4,d5,d6,d7⟩:=cc8 hkv2
   obtain ⟨e0,e1,e2,e3,e4,e5,e6,e7,f0,f1,f2,f3,f4,f5,f6,f7⟩:=cf8 hkr2
   have HAT : Hid ((set8 w2 w.heap.size (.int .u8 k') (.slice a' m' c') (.slice b' o' qq') (.int .i64 lo') (.bool ls') (.int .i64 hi') (.bool hs') (.bool op')).heap[w.heap.size]? = some (.cells #[.int .u8 k',.slice a' m' c',.slice b' o' qq',.int .i64 lo',.bool ls',.int .i64 hi',.bool hs',.bool op'] 47 (0,0))):=z23 hkr2 _ _ _ _ _ _ _ _
   have HOUT : Hid (OutX pb tb deep w (.ok (x',l')) (.returned (.agg #[.int .u8 k',.slice a' m' c',.slice b' o' qq',.int .i64 lo',.bool ls',.int .i64 hi',.bool hs',.bool op'])) (set8 w2 w.heap.size (.int .u8 k') (.slice a' m' c') (.slice b' o' qq') (.int .i64 lo') (.bool ls') (.int .i64 hi') (.bool hs') (.bool op'))):=by
    have hbb : BtP pb w w2:=HC.out.bt.trans hb2
    refine ⟨_,rfl,?_,hp2.set8 (by omega) (by omega) _ _ _ _ _ _ _ _,hbb.set8 (Nat.le_refl _) _ _ _ _ _ _ _ _⟩
    refine HFI.out.go ⟨?_,fun b hbz hpc => ?_⟩
    ·rw [z0m]; exact hb2.2.2.2.1
    ·simp only [pC,Bool.and_eq_true,decide_eq_true_eq,bne_iff_ne,ne_eq] at hpc
     exact ⟨by simpa [pN] using hpc.1.1,(z09 _ _ _ _ _ _ _ _ _ _ _ hpc.1.2).trans (hb2.2.2.2.2 b hbz (by omega))⟩
   clear hkv2 hkr2 hp2 hb2
   go_wp2_with fail
   first | refine bodyPost_ret (results_cell_row rfl _ _ _ _ _ _ _ rfl HAT.out Tryz.underlying47 rfl (by kernel_rfl)) rfl ?_ | refine And.intro rfl (Exists.intro _ (And.intro (results_cell_row rfl _ _ _ _ _ _ _ rfl HAT.out Tryz.underlying47 rfl (by kernel_rfl)) ?_))
   rw [HFIN.out]
   exact HOUT.out
  | true =>
   rw [qi] at HM
   simp only [if_true] at HM
   have HSTEP : Hid (z9o r.length x r = z9o n0 (.mk 5 [] [x'] z06) l'.tail):=by
    rw [Hid,HEQ.out]; simp only [z9o]; rw [qi]; simp
   clear qi
   go_wp2_with fail
   refine HM.out.mono ?_
   rintro e w2 ⟨rfl,hp2,hb2⟩
   have hBW : BtP pb w w2:=HC.out.bt.trans hb2
   have hkv2:=hb2.at HKV.out hkvp
   have hkr2:=hb2.at HC.out.res (by omega)
   have hlt2:=(Array.getElem?_eq_some_iff.1 hkv2).1
   obtain ⟨e0,e1,e2,e3,e4,e5,e6,e7,f0,f1,f2,f3,f4,f5,f6,f7⟩:=cf8 hkv2
   have HNEW : Hid (ChX pb tb deep w.heap.size kv w ((set8 w2 kv (.int .u8 5) (.slice none 0 0) (.slice (some ⟨w2.heap.size,0,none⟩) 1 1) (.int .i64 0) (.bool false) (.int .i64 0) (.bool false) (.bool false)).alloc (.cells #[.int .u8 k',.slice a' m' c',.slice b' o' qq',.int .i64 lo',.bool ls',.int .i64 hi',.bool hs',.bool op'] 47)) (.mk 5 [] [x'] z06) l'.tail):=by
    have hfx : XI (pC w.heap.size w.heap.size kv) ((set8 w2 kv (.int .u8 5) (.slice none 0 0) (.slice (some ⟨w2.heap.size,0,none⟩) 1 1) (.int .i64 0) (.bool false) (.int .i64 0) (.bool false) (.bool false)).alloc (.cells #[.int .u8 k',.slice a' m' c',.slice b' o' qq',.int .i64 lo',.bool ls',.int .i64 hi',.bool hs',.bool op'] 47)) x' (.agg #[.int .u8 k',.slice a' m' c',.slice b' o' qq',.int .i64 lo',.bool ls',.int .i64 hi',.bool hs',.bool op']):=by
     refine HFI.out.go ⟨?_,fun b hbz hpc => ⟨hpc,?_⟩⟩
     ·simp only [World.alloc,Array.size_push,z0m]
      have:=hb2.2.2.2.1
      omega
     ·simp only [pC,Bool.and_eq_true,decide_eq_true_eq,bne_iff_ne,ne_eq] at hpc
      have:=hb2.2.2.2.1
      exact (Lib.alloc_old _ _ _ (by rw [z0m]; omega)).trans ((z09 _ _ _ _ _ _ _ _ _ _ _ hpc.2).trans (hb2.2.2.2.2 b hbz (by omega)))
    have hft:=XI.one hfx 5 0 0 false false false w2.heap.size 1 0 none (0,0) (by
     simp only [pC,Bool.and_eq_true,decide_eq_true_eq,bne_iff_ne,ne_eq]
     omega) (z0b (by rw [z0m]))
    exact ⟨⟨_,_,_,_,_,_,_,_,_,_,_,_,z1c (z23 hkv2 _ _ _ _ _ _ _ _),hft⟩,(hp2.set8 (fun e => hkvp e.symm) hkvt _ _ _ _ _ _ _ _).alloc _,(hBW.set8 hle _ _ _ _ _ _ _ _).alloc _,z1c ((z09 _ _ _ _ _ _ _ _ _ _ _ hkr).trans hkr2)⟩
   have HLEFT : Hid (z6w pb ((set8 w2 kv (.int .u8 5) (.slice none 0 0) (.slice (some ⟨w2.heap.size,0,none⟩) 1 1) (.int .i64 0) (.bool false) (.int .i64 0) (.bool false) (.bool false)).alloc (.cells #[.int .u8 k',.slice a' m' c',.slice b' o' qq',.int .i64 lo',.bool ls',.int .i64 hi',.bool hs',.bool op'] 47)) < z6w pb wr):=by
    rw [Hid,HNEW.out.ps.left,HC.out.ps.left,HL0.out]
    simp
   have HLE : Hid (l'.tail.length ≤ n0):=by
    rw [Hid]
    have h2:=HN'.out
    rw [HL0.out] at h2 ⊢
    simp at h2 ⊢
    omega
   clear hp2 hb2 hBW hkv2 hkr2
   go_wp2_with fail
   go_roundw
   case rel => exact ⟨_,l'.tail,n0,HLE.out,HSTEP,HNEW⟩
   case measure => exact HLEFT.out
open Go.RowKit
@[local go_sem] theorem run_store_fn {P : Program} {w : World} {a : Addr} {m : Mode} (fn : Fn) (x y : Array Value) : (store a (.func fn x y) m).run P w = stored P w a (.func fn x y) m:=run_store P w a _ m rfl
def catP (d deep : Nat) (l : List Tok) : PRes X:=z1s [59] (z9p (treR d) deep) (z40 4) l
def andP (d deep : Nat) (l : List Tok) : PRes X:=z1s [38] (catP d deep) (z40 3) l
theorem more_sh {tr : Nat → List Tok → PRes X} (hf : ∀ d l,Sh l (tr d l)) (deep : Nat) (l : List Tok) : Sh l (z9p tr deep l):=fun x r h => by
 unfold z9p at h
 cases e : zax tr deep l with
 | error z => rw [e] at h; cases h
 | ok p =>
  obtain ⟨x1,r1⟩:=p
  rw [e] at h
  dsimp only at h
  have h1:=base_sh hf deep l _ _ e
  have h2:=plus_sh r1.length x1 r1
  injection h with h
  rw [h] at h2
  dsimp only at h2
  omega
theorem cat_sh (d deep : Nat) (l : List Tok) : Sh l (catP d deep l):=z3e (fun l => more_sh (fun dd l => tre_sh d dd l) deep l) l
theorem and_sh (d deep : Nat) (l : List Tok) : Sh l (andP d deep l):=z3e (fun l => cat_sh d deep l) l
theorem cat89_any (pb tb d deep kp : Nat) (hp4 : 4 ≤ pb) (htre : TreC pb tb d) (l : List Tok) (w : World) (hd : deep ≤ 64) (hdd : 64 ≤ deep + d) (hrd : Rdy w) (h : Ps pb tb w l deep) (hkp : w.heap[kp]? = some (.cells #[.pointer (some ⟨pb,0,none⟩)] 192 (0,0))) :
 Calls Tryz.prog 197 #[.pointer (some ⟨kp,0,none⟩)] w (OutX pb tb deep w (catP d deep l)):=by
 have HKPP:=Jh (h.other hkp (by decide))
 obtain ⟨kr,hkr⟩ : ∃ kr,kr = w.heap.size:=⟨_,rfl⟩
 have hpb:=h.lt
 have htb:=h.tb_lt
 have hkpl:=(Array.getElem?_eq_some_iff.1 hkp).1
 obtain ⟨WIN,hWIN⟩ : ∃ WIN,WIN = w.alloc (.cells #[.int .u8 0,.slice none 0 0,.slice none 0 0,.int .i64 0,.bool false,.int .i64 0,.bool false,.bool false] 47):=⟨_,rfl⟩
 have hB : BtP pb w WIN:=by rw [hWIN]; exact (BtP.refl pb w).alloc _
 have hP : Ps pb tb WIN l deep:=by rw [hWIN]; exact h.alloc _
 have HKP : Hid (WIN.heap[kp]? = some (.cells #[.pointer (some ⟨pb,0,none⟩)] 192 (0,0))):=by rw [Hid,hWIN]; exact z1c hkp
 have HKR : Hid (WIN.heap[kr]? = some (.cells #[.int .u8 0,.slice none 0 0,.slice none 0 0,.int .i64 0,.bool false,.int .i64 0,.bool false,.bool false] 47 (0,0))):=by rw [Hid,hWIN]; exact z0b hkr
 have HS : Hid (∀ W : World,W.heap[kp]? = some (.cells #[.pointer (some ⟨pb,0,none⟩)] 192 (0,0)) → W.cell? ⟨kp,0,none⟩ = some (Value.pointer (some ⟨pb,0,none⟩))):=fun W hW => Jc hW 0
 have hCH:=z72 pb tb deep ⟨#[59]⟩ (by decide) 199 #[.pointer (some ⟨pb,0,none⟩)] #[] (z1r Tryz.func199 (by kernel_rfl) (by kernel_rfl)) WIN.heap.size 4 (z9p (treR d) deep) (fun l x r e => more_sh (fun dd l => tre_sh d dd l) deep l x r e)
  l (WIN.drew.alloc (.cells #[.int .u8 4] 5)) (hP.drew.alloc _) (z0b rfl)
  (fun w' l' hb hp => by have:=more91_any pb tb d hp4 htre deep l' w' hd hdd (hrd.bt hp4 (hB.trans (((BtP.refl pb WIN).drew.alloc _).trans hb))) hp; simpa using this)
 obtain ⟨RES,hRES⟩ : ∃ RES,RES = catP d deep l:=⟨_,rfl⟩
 rw [← hRES]
 have HCH : Hid (Calls Tryz.prog 198 #[.pointer (some ⟨pb,0,none⟩),.string ⟨#[59]⟩,.func (.func 199) #[.pointer (some ⟨pb,0,none⟩)] #[],.func (.func 229) #[] #[.pointer (some ⟨WIN.heap.size,0,none⟩)]] (WIN.drew.alloc (.cells #[.int .u8 4] 5)) (OutX pb tb deep (WIN.drew.alloc (.cells #[.int .u8 4] 5)) RES)):=by
  rw [hRES]; exact hCH
 have HB:=Jh hB
 have hmf : ∀ (fn : Fn) (first cap : Array Value) (w : World),(Instr.makeFunc fn first cap).run Tryz.prog w = .ok (.func fn first cap) w:=fun _ _ _ _ => rfl
 have HWN:=Jh hWIN.symm
 have HKQ:=Jh hkr.symm
 have hle : w.heap.size ≤ kr:=by omega
 clear hB hP hCH hRES h hkp hrd htre hWIN hkr
 go_enter Tryz.func197,Tryz.ntmps197
 go_wp2_with fail
 rw [HWN.out,HKQ.out]
 clear HWN HKQ
 refine wp_region_held_drew (S:=fun W => W.cell? ⟨kp,0,none⟩ = some (Value.pointer (some ⟨pb,0,none⟩))) (by kernel_rfl) (HS.out _ HKP.out) (fun hHeld => ?_)
 refine wpAnyH_take (i:=0) (v:=?_) rfl (by kernel_rfl) (by kernel_rfl) (by kernel_rfl) (fun _ _ _ h => h) (Or.inl ⟨by kernel_rfl,?_⟩) (by assumption) ?_
 rotate_left
 ·(intro w hSw; (try dsimp only at hSw); go_simp)
  with_reducible rfl
 try simp only [Act.put,J1]
 refine wpAnyH_take (i:=1) (v:=?_) rfl (by kernel_rfl) (by kernel_rfl) (by kernel_rfl) (fun _ _ _ h => h) (Or.inl ⟨by kernel_rfl,?_⟩) (by assumption) ?_
 rotate_left
 ·(intro w hSw; (try dsimp only at hSw); go_simp)
  with_reducible rfl
 try simp only [Act.put]
 refine wpAnyH_take (i:=2) (v:=?_) rfl (by kernel_rfl) (by kernel_rfl) (by kernel_rfl) (fun _ _ _ h => h) (Or.inl ⟨by kernel_rfl,?_⟩) (by assumption) ?_
 rotate_left
 ·(intro w hSw; (try dsimp only at hSw); go_simp)
  with_reducible rfl
 try simp only [Act.put]
 refine Jr (rs:=[3]) (by kernel_rfl) (by simp) ?_
 refine Jd rfl (fun K0 hK => ?_) Je
 go_simp
 go_at_call 200
 refine (z96 4 _).mono ?_
 rintro e wt ⟨rfl,rfl⟩
 dsimp only
 refine hK.out _ _ (HS.out _ (z1c HKP.out)) (fun _ => ?_)
 clear hK K0
 try simp only [Act.put,J1,J2,J3]
 refine Jr (rs:=[4]) (by kernel_rfl) (by simp) ?_
 refine Jd rfl (fun K0 hK => ?_) Je
 go_simp
 go_at_call 198
 cases q : RES with
 | error c =>
  refine (HCH.out.mono ?_)
  rw [q]
  rintro e w3 ⟨rfl,hb⟩
  have HB3:=Jh (HB.out.trans (((BtP.refl pb WIN).drew.alloc _).trans hb))
  clear hb
  dsimp only
  go_wp2_with fail
  exact ⟨rfl,rfl,HB3.out⟩
 | ok xr =>
  obtain ⟨x,r⟩:=xr
  refine (HCH.out.mono ?_)
  rw [q]
  rintro e w3 ho
  obtain ⟨k1,a1,m1,c1,b1,o1,qq1,lo1,ls1,hi1,hs1,op1,rfl,hf,hp,hb⟩:=OutX.ok ho
  have hbw:=((BtP.refl pb WIN).drew.alloc (.cells #[.int .u8 4] 5)).trans hb
  have hkr3:=hbw.at HKR.out (by omega)
  have hkp3:=hbw.at HKP.out HKPP.out
  obtain ⟨e0,e1,e2,e3,e4,e5,e6,e7,f0,f1,f2,f3,f4,f5,f6,f7⟩:=cf8 hkr3
  have hsz:=HB.out.2.2.2.1
  have HAT : Hid ((set8 w3 kr (.int .u8 k1) (.slice a1 m1 c1) (.slice b1 o1 qq1) (.int .i64 lo1) (.bool ls1) (.int .i64 hi1) (.bool hs1) (.bool op1)).heap[kr]? = some (.cells #[.int .u8 k1,.slice a1 m1 c1,.slice b1 o1 qq1,.int .i64 lo1,.bool ls1,.int .i64 hi1,.bool hs1,.bool op1] 47 (0,0))):=z23 hkr3 _ _ _ _ _ _ _ _
  have HOUT : Hid (OutX pb tb deep w (.ok (x,r)) (.returned (.agg #[.int .u8 k1,.slice a1 m1 c1,.slice b1 o1 qq1,.int .i64 lo1,.bool ls1,.int .i64 hi1,.bool hs1,.bool op1])) (set8 w3 kr (.int .u8 k1) (.slice a1 m1 c1) (.slice b1 o1 qq1) (.int .i64 lo1) (.bool ls1) (.int .i64 hi1) (.bool hs1) (.bool op1))):=by
   refine ⟨_,rfl,?_,hp.set8 (by omega) (by omega) _ _ _ _ _ _ _ _,(HB.out.trans hbw).set8 (by omega) _ _ _ _ _ _ _ _⟩
   have hwin:=(Array.getElem?_eq_some_iff.1 HKR.out).1
   refine hf.go ⟨by rw [z0m]; exact Nat.le_refl _,fun b hbz hpn => ?_⟩
   have hpn':=of_decide_eq_true hpn
   have hws : (WIN.drew.alloc (.cells #[.int .u8 4] 5)).heap.size = WIN.heap.size + 1:=Array.size_push ..
   rw [hws] at hpn'
   exact ⟨decide_eq_true (show w.heap.size ≤ b by omega),z09 _ _ _ _ _ _ _ _ _ _ _ (by omega)⟩
  have HKP3 : Hid ((set8 w3 kr (.int .u8 k1) (.slice a1 m1 c1) (.slice b1 o1 qq1) (.int .i64 lo1) (.bool ls1) (.int .i64 hi1) (.bool hs1) (.bool op1)).cell? ⟨kp,0,none⟩ = some (Value.pointer (some ⟨pb,0,none⟩))) :=
   Jc ((z09 w3 kr _ _ _ _ _ _ _ _ kp (by omega)).trans hkp3) 0
  have hs3:=(HS.out _ hkp3)
  clear ho hf hp hb hbw hkr3 hkp3 hsz
  dsimp only
  refine hK.out _ _ hs3 (fun _ => ?_)
  clear hK K0
  try simp only [Act.put,J1,J2,J3]
  refine Jr (rs:=[5]) (by kernel_rfl) (by simp) ?_
  refine Jd rfl (fun K0 hK => ?_) Je
  go_simp
  refine hK.out _ _ HKP3.out (fun _ => ?_)
  clear hK K0
  try simp only [Act.put,J1,J2,J3]
  refine wpAnyH_done (by kernel_rfl) ?_ _
  go_wp2_with fail
  first | refine And.intro rfl (Exists.intro _ (And.intro (results_cell_row rfl _ _ _ _ _ _ _ rfl HAT.out Tryz.underlying47 rfl (by kernel_rfl)) ?_)) | refine bodyPost_ret (results_cell_row rfl _ _ _ _ _ _ _ rfl HAT.out Tryz.underlying47 rfl (by kernel_rfl)) rfl ?_
  first | exact HOUT.out | (rw [q]; exact HOUT.out)
theorem and93_any (pb tb d deep kp kf : Nat) (hp4 : 4 ≤ pb) (htre : TreC pb tb d) (l : List Tok) (w : World) (hd : deep ≤ 64) (hdd : 64 ≤ deep + d) (hrd : Rdy w) (h : Ps pb tb w l deep) (hkp : w.heap[kp]? = some (.cells #[.pointer (some ⟨pb,0,none⟩)] 192 (0,0))) (hkf : w.heap[kf]? = some (.cells #[.func (.func 197) #[] #[.pointer (some ⟨kp,0,none⟩)]] 197 (0,0))) :
 Calls Tryz.prog 201 #[.pointer (some ⟨kp,0,none⟩),.pointer (some ⟨kf,0,none⟩)] w (OutX pb tb deep w (andP d deep l)):=by
 have HKPP:=Jh (h.other hkp (by decide))
 have HKFP:=Jh (h.other hkf (by decide))
 obtain ⟨kr,hkr⟩ : ∃ kr,kr = w.heap.size:=⟨_,rfl⟩
 have hpb:=h.lt
 have htb:=h.tb_lt
 have hkpl:=(Array.getElem?_eq_some_iff.1 hkp).1
 have hkfl:=(Array.getElem?_eq_some_iff.1 hkf).1
 obtain ⟨WIN,hWIN⟩ : ∃ WIN,WIN = w.alloc (.cells #[.int .u8 0,.slice none 0 0,.slice none 0 0,.int .i64 0,.bool false,.int .i64 0,.bool false,.bool false] 47):=⟨_,rfl⟩
 have hB : BtP pb w WIN:=by rw [hWIN]; exact (BtP.refl pb w).alloc _
 have hP : Ps pb tb WIN l deep:=by rw [hWIN]; exact h.alloc _
 have HKP : Hid (WIN.heap[kp]? = some (.cells #[.pointer (some ⟨pb,0,none⟩)] 192 (0,0))):=by rw [Hid,hWIN]; exact z1c hkp
 have HKF : Hid (WIN.heap[kf]? = some (.cells #[.func (.func 197) #[] #[.pointer (some ⟨kp,0,none⟩)]] 197 (0,0))):=by rw [Hid,hWIN]; exact z1c hkf
 have HKR : Hid (WIN.heap[kr]? = some (.cells #[.int .u8 0,.slice none 0 0,.slice none 0 0,.int .i64 0,.bool false,.int .i64 0,.bool false,.bool false] 47 (0,0))):=by rw [Hid,hWIN]; exact z0b hkr
 have HS : Hid (∀ W : World,W.heap[kp]? = some (.cells #[.pointer (some ⟨pb,0,none⟩)] 192 (0,0)) → W.heap[kf]? = some (.cells #[.func (.func 197) #[] #[.pointer (some ⟨kp,0,none⟩)]] 197 (0,0)) → W.cell? ⟨kp,0,none⟩ = some (Value.pointer (some ⟨pb,0,none⟩)) ∧ W.cell? ⟨kf,0,none⟩ = some (Value.func (.func 197) #[] #[.pointer (some ⟨kp,0,none⟩)])):=fun W hW hF => ⟨Jc hW 0,Jc hF 0⟩
 have hCH:=z72 pb tb deep ⟨#[38]⟩ (by decide) 197 #[] #[.pointer (some ⟨kp,0,none⟩)] (z1r Tryz.func197 (by kernel_rfl) (by kernel_rfl)) WIN.heap.size 3 (catP d deep) (fun l x r e => cat_sh d deep l x r e)
  l (WIN.drew.alloc (.cells #[.int .u8 3] 5)) (hP.drew.alloc _) (z0b rfl)
  (fun w' l' hb hp => by
   have hbb:=((BtP.refl pb WIN).drew.alloc (.cells #[.int .u8 3] 5)).trans hb
   have:=cat89_any pb tb d deep kp hp4 htre l' w' hd hdd (hrd.bt hp4 (hB.trans hbb)) hp (hbb.at HKP.out HKPP.out)
   simpa using this)
 obtain ⟨RES,hRES⟩ : ∃ RES,RES = andP d deep l:=⟨_,rfl⟩
 rw [← hRES]
 have HCH : Hid (Calls Tryz.prog 198 #[.pointer (some ⟨pb,0,none⟩),.string ⟨#[38]⟩,.func (.func 197) #[] #[.pointer (some ⟨kp,0,none⟩)],.func (.func 229) #[] #[.pointer (some ⟨WIN.heap.size,0,none⟩)]] (WIN.drew.alloc (.cells #[.int .u8 3] 5)) (OutX pb tb deep (WIN.drew.alloc (.cells #[.int .u8 3] 5)) RES)):=by
  rw [hRES]; exact hCH
 have HB:=Jh hB
 have hmf : ∀ (fn : Fn) (first cap : Array Value) (w : World),(Instr.makeFunc fn first cap).run Tryz.prog w = .ok (.func fn first cap) w:=fun _ _ _ _ => rfl
 have HWN:=Jh hWIN.symm
 have HKQ:=Jh hkr.symm
 have hle : w.heap.size ≤ kr:=by omega
 clear hB hP hCH hRES h hkp hkf hrd htre hWIN hkr
 go_enter Tryz.func201,Tryz.ntmps201
 go_wp2_with fail
 rw [HWN.out,HKQ.out]
 clear HWN HKQ
 refine wp_region_held_drew (S:=fun W => W.cell? ⟨kp,0,none⟩ = some (Value.pointer (some ⟨pb,0,none⟩)) ∧ W.cell? ⟨kf,0,none⟩ = some (Value.func (.func 197) #[] #[.pointer (some ⟨kp,0,none⟩)])) (by kernel_rfl) (HS.out _ HKP.out HKF.out) (fun hHeld => ?_)
 refine wpAnyH_take (i:=0) (v:=?_) rfl (by kernel_rfl) (by kernel_rfl) (by kernel_rfl) (fun _ _ _ h => h) (Or.inl ⟨by kernel_rfl,?_⟩) (by assumption) ?_
 rotate_left
 ·(intro w hSw; (try dsimp only at hSw); go_simp)
  with_reducible rfl
 try simp only [Act.put,J1]
 refine wpAnyH_take (i:=1) (v:=?_) rfl (by kernel_rfl) (by kernel_rfl) (by kernel_rfl) (fun _ _ _ h => h) (Or.inl ⟨by kernel_rfl,?_⟩) (by assumption) ?_
 rotate_left
 ·(intro w hSw; (try dsimp only at hSw); go_simp)
  with_reducible rfl
 try simp only [Act.put]
 refine Jr (rs:=[2]) (by kernel_rfl) (by simp) ?_
 refine Jd rfl (fun K0 hK => ?_) Je
 go_simp
 go_at_call 200
 refine (z96 3 _).mono ?_
 rintro e wt ⟨rfl,rfl⟩
 dsimp only
 refine hK.out _ _ (HS.out _ (z1c HKP.out) (z1c HKF.out)) (fun _ => ?_)
 clear hK K0
 try simp only [Act.put,J1,J2,J3]
 refine Jr (rs:=[3]) (by kernel_rfl) (by simp) ?_
 refine Jd rfl (fun K0 hK => ?_) Je
 go_simp
 go_at_call 198
 cases q : RES with
 | error c =>
  refine (HCH.out.mono ?_)
  rw [q]
  rintro e w3 ⟨rfl,hb⟩
  have HB3:=Jh (HB.out.trans (((BtP.refl pb WIN).drew.alloc _).trans hb))
  clear hb
  dsimp only
  go_wp2_with fail
  exact ⟨rfl,rfl,HB3.out⟩
 | ok xr =>
  obtain ⟨x,r⟩:=xr
  refine (HCH.out.mono ?_)
  rw [q]
  rintro e w3 ho
  obtain ⟨k1,a1,m1,c1,b1,o1,qq1,lo1,ls1,hi1,hs1,op1,rfl,hf,hp,hb⟩:=OutX.ok ho
  have hbw:=((BtP.refl pb WIN).drew.alloc (.cells #[.int .u8 3] 5)).trans hb
  have hkr3:=hbw.at HKR.out (by omega)
  have hkp3:=hbw.at HKP.out HKPP.out
  have hkf3:=hbw.at HKF.out HKFP.out
  obtain ⟨e0,e1,e2,e3,e4,e5,e6,e7,f0,f1,f2,f3,f4,f5,f6,f7⟩:=cf8 hkr3
  have hsz:=HB.out.2.2.2.1
  have HAT : Hid ((set8 w3 kr (.int .u8 k1) (.slice a1 m1 c1) (.slice b1 o1 qq1) (.int .i64 lo1) (.bool ls1) (.int .i64 hi1) (.bool hs1) (.bool op1)).heap[kr]? = some (.cells #[.int .u8 k1,.slice a1 m1 c1,.slice b1 o1 qq1,.int .i64 lo1,.bool ls1,.int .i64 hi1,.bool hs1,.bool op1] 47 (0,0))):=z23 hkr3 _ _ _ _ _ _ _ _
  have HOUT : Hid (OutX pb tb deep w (.ok (x,r)) (.returned (.agg #[.int .u8 k1,.slice a1 m1 c1,.slice b1 o1 qq1,.int .i64 lo1,.bool ls1,.int .i64 hi1,.bool hs1,.bool op1])) (set8 w3 kr (.int .u8 k1) (.slice a1 m1 c1) (.slice b1 o1 qq1) (.int .i64 lo1) (.bool ls1) (.int .i64 hi1) (.bool hs1) (.bool op1))):=by
   refine ⟨_,rfl,?_,hp.set8 (by omega) (by omega) _ _ _ _ _ _ _ _,(HB.out.trans hbw).set8 (by omega) _ _ _ _ _ _ _ _⟩
   have hwin:=(Array.getElem?_eq_some_iff.1 HKR.out).1
   refine hf.go ⟨by rw [z0m]; exact Nat.le_refl _,fun b hbz hpn => ?_⟩
   have hpn':=of_decide_eq_true hpn
   have hws : (WIN.drew.alloc (.cells #[.int .u8 3] 5)).heap.size = WIN.heap.size + 1:=Array.size_push ..
   rw [hws] at hpn'
   exact ⟨decide_eq_true (show w.heap.size ≤ b by omega),z09 _ _ _ _ _ _ _ _ _ _ _ (by omega)⟩
  have HKP3 : Hid ((set8 w3 kr (.int .u8 k1) (.slice a1 m1 c1) (.slice b1 o1 qq1) (.int .i64 lo1) (.bool ls1) (.int .i64 hi1) (.bool hs1) (.bool op1)).cell? ⟨kp,0,none⟩ = some (Value.pointer (some ⟨pb,0,none⟩)) ∧ (set8 w3 kr (.int .u8 k1) (.slice a1 m1 c1) (.slice b1 o1 qq1) (.int .i64 lo1) (.bool ls1) (.int .i64 hi1) (.bool hs1) (.bool op1)).cell? ⟨kf,0,none⟩ = some (Value.func (.func 197) #[] #[.pointer (some ⟨kp,0,none⟩)])) :=
   ⟨Jc ((z09 w3 kr _ _ _ _ _ _ _ _ kp (by omega)).trans hkp3) 0,Jc ((z09 w3 kr _ _ _ _ _ _ _ _ kf (by omega)).trans hkf3) 0⟩
  have hs3:=(HS.out _ hkp3 hkf3)
  clear ho hf hp hb hbw hkr3 hkp3 hsz hkf3
  dsimp only
  refine hK.out _ _ hs3 (fun _ => ?_)
  clear hK K0
  try simp only [Act.put,J1,J2,J3]
  refine Jr (rs:=[4]) (by kernel_rfl) (by simp) ?_
  refine Jd rfl (fun K0 hK => ?_) Je
  go_simp
  refine hK.out _ _ HKP3.out (fun _ => ?_)
  clear hK K0
  try simp only [Act.put,J1,J2,J3]
  refine wpAnyH_done (by kernel_rfl) ?_ _
  go_wp2_with fail
  first | refine And.intro rfl (Exists.intro _ (And.intro (results_cell_row rfl _ _ _ _ _ _ _ rfl HAT.out Tryz.underlying47 rfl (by kernel_rfl)) ?_)) | refine bodyPost_ret (results_cell_row rfl _ _ _ _ _ _ _ rfl HAT.out Tryz.underlying47 rfl (by kernel_rfl)) rfl ?_
  first | exact HOUT.out | (rw [q]; exact HOUT.out)
theorem tre44_any (pb tb : Nat) (hp4 : 4 ≤ pb) : ∀ d : Nat,TreC pb tb d:=by
 intro d
 induction d with
 | zero => intro deep l w hd hdd; exact absurd hdd (by omega)
 | succ d ih =>
  intro deep l w hd hdd hrd h
  obtain ⟨kp,hkpe⟩ : ∃ kp,kp = w.heap.size:=⟨_,rfl⟩
  obtain ⟨kr,hkr⟩ : ∃ kr,kr = w.heap.size + 1:=⟨_,rfl⟩
  obtain ⟨kf,hkfe⟩ : ∃ kf,kf = w.heap.size + 2:=⟨_,rfl⟩
  have hpb:=h.lt
  have htb:=h.tb_lt
  have HKPP : Hid (kp ≠ pb):=by rw [Hid]; omega
  have HKFP : Hid (kf ≠ pb):=by rw [Hid]; omega
  obtain ⟨WIN,hWIN⟩ : ∃ WIN,WIN = ((w.alloc (.cells #[.pointer (some ⟨pb,0,none⟩)] 192)).alloc (.cells #[.int .u8 0,.slice none 0 0,.slice none 0 0,.int .i64 0,.bool false,.int .i64 0,.bool false,.bool false] 47)).alloc (.cells #[.func (.func 197) #[] #[.pointer (some ⟨kp,0,none⟩)]] 197):=⟨_,rfl⟩
  have hB : BtP pb w WIN:=by rw [hWIN]; exact (((BtP.refl pb w).alloc _).alloc _).alloc _
  have hP : Ps pb tb WIN l deep:=by rw [hWIN]; exact ((h.alloc _).alloc _).alloc _
  have HKP : Hid (WIN.heap[kp]? = some (.cells #[.pointer (some ⟨pb,0,none⟩)] 192 (0,0))):=by rw [Hid,hWIN]; exact z1c (z1c (z0b hkpe))
  have HKR : Hid (WIN.heap[kr]? = some (.cells #[.int .u8 0,.slice none 0 0,.slice none 0 0,.int .i64 0,.bool false,.int .i64 0,.bool false,.bool false] 47 (0,0))):=by rw [Hid,hWIN]; exact z1c (z0b (by simp [hkr]))
  have HKF : Hid (WIN.heap[kf]? = some (.cells #[.func (.func 197) #[] #[.pointer (some ⟨kp,0,none⟩)]] 197 (0,0))):=by rw [Hid,hWIN]; exact z0b (by simp [hkfe])
  have hkpl : kp < kr:=by omega
  have HS : Hid (∀ W : World,W.heap[kp]? = some (.cells #[.pointer (some ⟨pb,0,none⟩)] 192 (0,0)) → W.cell? ⟨kp,0,none⟩ = some (Value.pointer (some ⟨pb,0,none⟩))):=fun W hW => Jc hW 0
  have hCH:=z72 pb tb deep ⟨#[124]⟩ (by decide) 201 #[] #[.pointer (some ⟨kp,0,none⟩),.pointer (some ⟨kf,0,none⟩)] (z1r Tryz.func201 (by kernel_rfl) (by kernel_rfl)) WIN.heap.size 2 (andP d deep) (fun l x r e => and_sh d deep l x r e)
   l (WIN.drew.alloc (.cells #[.int .u8 2] 5)) (hP.drew.alloc _) (z0b rfl)
   (fun w' l' hb hp => by
    have hbb:=((BtP.refl pb WIN).drew.alloc (.cells #[.int .u8 2] 5)).trans hb
    have:=and93_any pb tb d deep kp kf hp4 ih l' w' hd (by omega) (hrd.bt hp4 (hB.trans hbb)) hp (hbb.at HKP.out HKPP.out) (hbb.at HKF.out HKFP.out)
    simpa using this)
  obtain ⟨RES,hRES⟩ : ∃ RES,RES = treR (d + 1) deep l:=⟨_,rfl⟩
  rw [← hRES]
  have HCH : Hid (Calls Tryz.prog 198 #[.pointer (some ⟨pb,0,none⟩),.string ⟨#[124]⟩,.func (.func 201) #[] #[.pointer (some ⟨kp,0,none⟩),.pointer (some ⟨kf,0,none⟩)],.func (.func 229) #[] #[.pointer (some ⟨WIN.heap.size,0,none⟩)]] (WIN.drew.alloc (.cells #[.int .u8 2] 5)) (OutX pb tb deep (WIN.drew.alloc (.cells #[.int .u8 2] 5)) RES)):=by
   rw [hRES]; exact hCH
  have HB:=Jh hB
  have hmf : ∀ (fn : Fn) (first cap : Array Value) (w : World),(Instr.makeFunc fn first cap).run Tryz.prog w = .ok (.func fn first cap) w:=fun _ _ _ _ => rfl
  have HWN:=Jh hWIN.symm
  have HKQ:=Jh hkr.symm
  have HKO:=Jh hkpe.symm
  have HKG:=Jh hkfe.symm
  have hle : w.heap.size ≤ kr:=by omega
  clear hB hP hCH hRES h hrd ih hWIN hkr hkpe hkfe
  go_enter Tryz.func128,Tryz.ntmps128
  go_wp2_with fail
  try rw [HKG.out]
  rw [HKQ.out,HKO.out]
  rw [HWN.out]
  clear HWN HKQ HKO
  refine wp_region_held_drew (S:=fun W => W.cell? ⟨kp,0,none⟩ = some (Value.pointer (some ⟨pb,0,none⟩))) (by kernel_rfl) (HS.out _ HKP.out) (fun hHeld => ?_)
  refine wpAnyH_take (i:=0) (v:=?_) rfl (by kernel_rfl) (by kernel_rfl) (by kernel_rfl) (fun _ _ _ h => h) (Or.inl ⟨by kernel_rfl,?_⟩) (by assumption) ?_
  rotate_left
  ·(intro w hSw; (try dsimp only at hSw); go_simp)
   with_reducible rfl
  try simp only [Act.put,J1]
  refine wpAnyH_take (i:=1) (v:=?_) rfl (by kernel_rfl) (by kernel_rfl) (by kernel_rfl) (fun _ _ _ h => h) (Or.inl ⟨by kernel_rfl,?_⟩) (by assumption) ?_
  rotate_left
  ·(intro w hSw; (try dsimp only at hSw); go_simp)
   with_reducible rfl
  try simp only [Act.put]
  refine Jr (rs:=[2]) (by kernel_rfl) (by simp) ?_
  refine Jd rfl (fun K0 hK => ?_) Je
  go_simp
  go_at_call 200
  refine (z96 2 _).mono ?_
  rintro e wt ⟨rfl,rfl⟩
  dsimp only
  refine hK.out _ _ (HS.out _ (z1c HKP.out)) (fun _ => ?_)
  clear hK K0
  try simp only [Act.put,J1,J2,J3]
  refine Jr (rs:=[3]) (by kernel_rfl) (by simp) ?_
  refine Jd rfl (fun K0 hK => ?_) Je
  go_simp
  go_at_call 198
  cases q : RES with
  | error c =>
   refine (HCH.out.mono ?_)
   rw [q]
   rintro e w3 ⟨rfl,hb⟩
   have HB3:=Jh (HB.out.trans (((BtP.refl pb WIN).drew.alloc _).trans hb))
   clear hb
   dsimp only
   go_wp2_with fail
   exact ⟨rfl,rfl,HB3.out⟩
  | ok xr =>
   obtain ⟨x,r⟩:=xr
   refine (HCH.out.mono ?_)
   rw [q]
   rintro e w3 ho
   obtain ⟨k1,a1,m1,c1,b1,o1,qq1,lo1,ls1,hi1,hs1,op1,rfl,hf,hp,hb⟩:=OutX.ok ho
   have hbw:=((BtP.refl pb WIN).drew.alloc (.cells #[.int .u8 2] 5)).trans hb
   have hkr3:=hbw.at HKR.out (by omega)
   have hkp3:=hbw.at HKP.out HKPP.out
   obtain ⟨e0,e1,e2,e3,e4,e5,e6,e7,f0,f1,f2,f3,f4,f5,f6,f7⟩:=cf8 hkr3
   have hsz:=HB.out.2.2.2.1
   have HAT : Hid ((set8 w3 kr (.int .u8 k1) (.slice a1 m1 c1) (.slice b1 o1 qq1) (.int .i64 lo1) (.bool ls1) (.int .i64 hi1) (.bool hs1) (.bool op1)).heap[kr]? = some (.cells #[.int .u8 k1,.slice a1 m1 c1,.slice b1 o1 qq1,.int .i64 lo1,.bool ls1,.int .i64 hi1,.bool hs1,.bool op1] 47 (0,0))):=z23 hkr3 _ _ _ _ _ _ _ _
   have HOUT : Hid (OutX pb tb deep w (.ok (x,r)) (.returned (.agg #[.int .u8 k1,.slice a1 m1 c1,.slice b1 o1 qq1,.int .i64 lo1,.bool ls1,.int .i64 hi1,.bool hs1,.bool op1])) (set8 w3 kr (.int .u8 k1) (.slice a1 m1 c1) (.slice b1 o1 qq1) (.int .i64 lo1) (.bool ls1) (.int .i64 hi1) (.bool hs1) (.bool op1))):=by
    refine ⟨_,rfl,?_,hp.set8 (by omega) (by omega) _ _ _ _ _ _ _ _,(HB.out.trans hbw).set8 (by omega) _ _ _ _ _ _ _ _⟩
    have hwin:=(Array.getElem?_eq_some_iff.1 HKR.out).1
    refine hf.go ⟨by rw [z0m]; exact Nat.le_refl _,fun b hbz hpn => ?_⟩
    have hpn':=of_decide_eq_true hpn
    have hws : (WIN.drew.alloc (.cells #[.int .u8 2] 5)).heap.size = WIN.heap.size + 1:=Array.size_push ..
    rw [hws] at hpn'
    exact ⟨decide_eq_true (show w.heap.size ≤ b by omega),z09 _ _ _ _ _ _ _ _ _ _ _ (by omega)⟩
   have HKP3 : Hid ((set8 w3 kr (.int .u8 k1) (.slice a1 m1 c1) (.slice b1 o1 qq1) (.int .i64 lo1) (.bool ls1) (.int .i64 hi1) (.bool hs1) (.bool op1)).cell? ⟨kp,0,none⟩ = some (Value.pointer (some ⟨pb,0,none⟩))) :=
    Jc ((z09 w3 kr _ _ _ _ _ _ _ _ kp (by omega)).trans hkp3) 0
   have hs3:=(HS.out _ hkp3)
   clear ho hf hp hb hbw hkr3 hkp3 hsz
   dsimp only
   refine hK.out _ _ hs3 (fun _ => ?_)
   clear hK K0
   try simp only [Act.put,J1,J2,J3]
   refine Jr (rs:=[4]) (by kernel_rfl) (by simp) ?_
   refine Jd rfl (fun K0 hK => ?_) Je
   go_simp
   refine hK.out _ _ HKP3.out (fun _ => ?_)
   clear hK K0
   try simp only [Act.put,J1,J2,J3]
   refine wpAnyH_done (by kernel_rfl) ?_ _
   go_wp2_with fail
   first | refine And.intro rfl (Exists.intro _ (And.intro (results_cell_row rfl _ _ _ _ _ _ _ rfl HAT.out Tryz.underlying47 rfl (by kernel_rfl)) ?_)) | refine bodyPost_ret (results_cell_row rfl _ _ _ _ _ _ _ rfl HAT.out Tryz.underlying47 rfl (by kernel_rfl)) rfl ?_
   first | exact HOUT.out | (rw [q]; exact HOUT.out)
end Go.Proofs.YtockinpjfhhkoaaGreatDoor
