/- The parser walked: within, of formulas. -/
import Derived.Test.YtockinpjfhhkoaaGreatDoorZ10
import Derived.Test.YtockinpjfhhkoaaGreatDoorZ09
import Derived.Test.YtockinpjfhhkoaaGreatDoorZ02
import Derived.Test.YtockinpjfhhkoaaGreatDoorZ34
set_option maxRecDepth 100000
set_option maxHeartbeats 16000000
open Go.Lib renaming cell_of_heap → Jc, frozen_of_heap → Jf, hid → Jh
namespace Go.Proofs.YtockinpjfhhkoaaGreatDoor
open Go.RowKit
theorem z1b {P : Program} {fn : Func} {p u : Tmp} {ty : TypeId} (h : fn.results = #[.cell p ty,.tmp u]) (tmps : Array Value) (w : World) (g : Nat) (t : TypeId) (cs : Array Value) (fr : Nat × Nat) (d : TypeDesc) (v : Value)
 (hp : tmps.getD p undef = .pointer (some ⟨g,0,none⟩)) (hv : tmps.getD u undef = v) (hg : w.heap[g]? = some (.cells cs t fr))
 (hu : P.underlying ty = some d) (hd : (match d with | .struct _ | .array _ _ => true | _ => false) = true) (hi : (P.info? ty).map (·.size) = some cs.size) :
 (results fn tmps).run P w = .ok (.tuple #[.agg cs,v]) w:=by
 rw [results_cell_tmp h,hp,hv]
 simp [asAddr,run_loadVar_row w g t ty cs fr d hg hu hd hi]
theorem Ps.set1 {pb tb deep : Nat} {w : World} {l : List Tok} (h : Ps pb tb w l deep) (d : Nat) : Ps pb tb (w.setCell ⟨pb,1,none⟩ (.int .i64 d)) l d ∧ BtP pb w (w.setCell ⟨pb,1,none⟩ (.int .i64 d)):=by
 obtain ⟨off,cap,h1,h2,h3,h4,h5,h6⟩:=h.blk
 have hsz : (w.setCell ⟨pb,1,none⟩ (.int .i64 d)).heap.size = w.heap.size:=by simp [World.setCell]
 have ho : ∀ j,j ≠ pb → (w.setCell ⟨pb,1,none⟩ (.int .i64 d)).heap[j]? = w.heap[j]?:=fun j hj => z04 _ _ _ _ j hj
 exact ⟨⟨⟨off,cap,z0l h1 1 _,h2,h3,h4,by rw [hsz]; exact h5,h6.agree (ho tb h4)⟩,h.ends,h.toks⟩,⟨rfl,rfl,rfl,by rw [hsz]; exact Nat.le_refl _,fun k _ hk => ho k hk⟩⟩
theorem Ps.deepAt {pb tb deep : Nat} {w : World} {l : List Tok} (h : Ps pb tb w l deep) : w.cell? ⟨pb,1,none⟩ = some (.int .i64 deep) ∧ w.frozen? ⟨pb,1,none⟩ = false:=by
 obtain ⟨off,cap,h1,_⟩:=h.blk
 exact ⟨by rw [Jc h1]; rfl,Jf h1 1⟩
theorem wrap_up (deep : Nat) (h : deep ≤ 64) : IntKind.i64.wrap ((deep : Int) + 1) = ((deep + 1 : Nat) : Int) ∧ IntKind.i64.wrap (((deep + 1 : Nat) : Int) - 1) = (deep : Int):=by
 constructor <;> (rw [IntWalk.i64_in _ (by omega)]; omega)
def OutWF (pb tb deep : Nat) (w : World) (r : Option (PRes F)) (e : Ending) (w' : World) : Prop :=
 match r with
 | none => ∃ l,e = .returned (.tuple #[.agg #[.int .u8 0,.string ⟨#[]⟩,.slice none 0 0],.bool false]) ∧ Ps pb tb w' l deep ∧ BtP pb w w'
 | some (.ok (x,l')) => ∃ v,e = .returned (.tuple #[v,.bool true]) ∧ FI (pN w.heap.size) w' x v ∧ Ps pb tb w' l' deep ∧ BtP pb w w'
 | some (.error c) => e = .panicked (thr c.1 c.2) ∧ BtP pb w w'
theorem within199_no (pb tb deep : Nat) (o c : ByteArray) (fv : Value) (l : List Tok) (w : World) (h : Ps pb tb w l deep) (hi : isT o.data.toList l = false) :
 Calls Tryz.prog 273 #[.pointer (some ⟨pb,0,none⟩),.string o,.string c,fv] w fun e w' => e = .returned (.tuple #[.agg #[.int .u8 0,.string ⟨#[]⟩,.slice none 0 0],.bool false]) ∧ Ps pb tb w' l deep ∧ BtP pb w w':=by
 have HI:=Jh (z3y pb tb deep l o _ (h.alloc (.cells #[.int .u8 0,.string ⟨#[]⟩,.slice none 0 0] 25)))
 rw [hi] at HI
 have HP:=Jh (h.alloc (.cells #[.int .u8 0,.string ⟨#[]⟩,.slice none 0 0] 25))
 have HB:=Jh ((BtP.refl pb w).alloc (.cells #[.int .u8 0,.string ⟨#[]⟩,.slice none 0 0] 25))
 have HR : Hid ((w.alloc (.cells #[.int .u8 0,.string ⟨#[]⟩,.slice none 0 0] 25)).heap[w.heap.size]? = some (.cells #[.int .u8 0,.string ⟨#[]⟩,.slice none 0 0] 25 (0,0))):=z0b rfl
 have hpb:=h.lt
 have htb : tb ≠ w.heap.size:=Nat.ne_of_lt h.tb_lt
 clear h hi
 go_enter Tryz.func273,Tryz.ntmps273
 go_wp2_with fail
 refine HI.out.mono ?_
 rintro e w1 ⟨rfl,hb⟩
 have HB1:=Jh (HB.out.trans (.of_below hb))
 have HP1:=Jh (HP.out.below hb)
 have hkr:=(BtP.of_below (pb:=pb) hb).at HR.out (by omega)
 obtain ⟨e0,e1,e2,f0,f1,f2⟩:=cf3 hkr
 have hlt:=(Array.getElem?_eq_some_iff.1 hkr).1
 have HAT : Hid ((set3 w1 w.heap.size (.int .u8 0) (.string ⟨#[]⟩) (.slice none 0 0)).heap[w.heap.size]? = some (.cells #[.int .u8 0,.string ⟨#[]⟩,.slice none 0 0] 25 (0,0))):=z31 hkr _ _ _
 have HFIN : Hid (Ps pb tb (set3 w1 w.heap.size (.int .u8 0) (.string ⟨#[]⟩) (.slice none 0 0)) l deep ∧ BtP pb w (set3 w1 w.heap.size (.int .u8 0) (.string ⟨#[]⟩) (.slice none 0 0))) :=
  ⟨HP1.out.set3 (by omega) htb _ _ _,HB1.out.set3 (Nat.le_refl _) _ _ _⟩
 clear hb hkr
 go_wp2_with fail
 refine bodyPost_ret (z1b rfl _ _ _ _ _ _ _ _ rfl rfl HAT.out Tryz.underlying25 rfl (by kernel_rfl)) rfl ?_
 exact ⟨rfl,HFIN.out⟩
theorem within199_deep (pb tb : Nat) (o c : ByteArray) (fv : Value) (l : List Tok) (w : World) (h : Ps pb tb w l 64) (hi : isT o.data.toList l = true) :
 Calls Tryz.prog 273 #[.pointer (some ⟨pb,0,none⟩),.string o,.string c,fv] w fun e w' => e = .panicked (thr 171 (z1q l)) ∧ BtP pb w w':=by
 have HI:=Jh (z3y pb tb 64 l o _ (h.alloc (.cells #[.int .u8 0,.string ⟨#[]⟩,.slice none 0 0] 25)))
 rw [hi] at HI
 have HP:=Jh (h.alloc (.cells #[.int .u8 0,.string ⟨#[]⟩,.slice none 0 0] 25))
 have HB:=Jh ((BtP.refl pb w).alloc (.cells #[.int .u8 0,.string ⟨#[]⟩,.slice none 0 0] 25))
 obtain ⟨⟨tk,ts,tp⟩,lr,rfl⟩:=h.ends.cons
 have HF:=Jh (fun (W : World) (hp : Ps pb tb W (⟨tk,ts,tp⟩ :: lr) 64) => z3s pb tb 64 171 tk ts tp lr W hp)
 clear h hi
 go_enter Tryz.func273,Tryz.ntmps273
 go_wp2_with fail
 refine HI.out.mono ?_
 rintro e w1 ⟨rfl,hb⟩
 have HB1:=Jh (HB.out.trans (.of_below hb))
 have HP1:=Jh (HP.out.below hb)
 obtain ⟨y0,y1⟩:=HP1.out.deepAt
 have hlt:=HP1.out.lt
 clear hb
 go_wp2_with fail
 refine (HF.out _ HP1.out).mono ?_
 rintro e w2 ⟨rfl,hb⟩
 have HB2:=Jh (HB1.out.trans (.of_below hb))
 clear hb
 go_wp2_with fail
 exact ⟨rfl,rfl,HB2.out⟩
theorem within199_in (pb tb deep : Nat) (o c : ByteArray) (ho : o.data.toList ≠ []) (hc : c.data.toList ≠ []) (K : Nat) (first caps : Array Value) (hE : Ent K) (one : Nat → List Tok → PRes F) (l : List Tok) (w : World) (h : Ps pb tb w l deep) (hd : deep < 64) (hi : isT o.data.toList l = true)
 (hone : ∀ w',BtP pb w w' → Ps pb tb w' l.tail (deep + 1) → Calls Tryz.prog K (first ++ caps) w' (OutF pb tb (deep + 1) w' (one (deep + 1) l.tail))) :
 Calls Tryz.prog 273 #[.pointer (some ⟨pb,0,none⟩),.string o,.string c,.func (.func K) first caps] w (OutWF pb tb deep w (z0p o.data.toList c.data.toList deep one l)):=by
 have HI:=Jh (z3y pb tb deep l o _ (h.alloc (.cells #[.int .u8 0,.string ⟨#[]⟩,.slice none 0 0] 25)))
 rw [hi] at HI
 have HP:=Jh (h.alloc (.cells #[.int .u8 0,.string ⟨#[]⟩,.slice none 0 0] 25))
 have HB:=Jh ((BtP.refl pb w).alloc (.cells #[.int .u8 0,.string ⟨#[]⟩,.slice none 0 0] 25))
 have HR : Hid ((w.alloc (.cells #[.int .u8 0,.string ⟨#[]⟩,.slice none 0 0] 25)).heap[w.heap.size]? = some (.cells #[.int .u8 0,.string ⟨#[]⟩,.slice none 0 0] 25 (0,0))):=z0b rfl
 have hpb:=h.lt
 have htb : tb ≠ w.heap.size:=Nat.ne_of_lt h.tb_lt
 obtain ⟨⟨tk,ts,tp⟩,lr,rfl⟩:=h.ends.cons
 have HPASS:=Jh (fun (W : World) (hp : Ps pb tb W (⟨tk,ts,tp⟩ :: lr) deep) => z3t pb tb deep tk ts tp lr W hp (hp.tail_ends ho hi))
 obtain ⟨wr1,wr2⟩:=wrap_up deep (by omega)
 have hq : ((deep : Int) == 64) = false:=by simp; omega
 have HW : Hid (z0p o.data.toList c.data.toList deep one (⟨tk,ts,tp⟩ :: lr) = some (match one (deep + 1) lr with
  | .error e => .error e
  | .ok (x,r) => match z0s c.data.toList r with
   | .error e => .error e
   | .ok r' => .ok (x,r'))):=by
  rw [Hid]; unfold z0p; rw [hi,if_pos rfl,if_neg (by omega)]; simp only [List.tail_cons]
  rcases one (deep + 1) lr with e | ⟨x,r⟩
  ·rfl
  ·simp only
   cases z0s c.data.toList r <;> rfl
 have HONE:=Jh hone
 simp only [List.tail_cons] at HONE
 have HT1:=Jh (fun (W : World) (r : List Tok) (g : Nat) (hp : Ps pb tb W r (deep + 1)) hg ht => z1t pb tb (deep + 1) g r c hc W hp hg ht)
 have HT2:=Jh (fun (W : World) (r : List Tok) (g : Nat) (hp : Ps pb tb W r (deep + 1)) hg ht => z1u pb tb (deep + 1) g r c hc W hp hg ht)
 obtain ⟨RES,hRES⟩ : ∃ RES,RES = z0p o.data.toList c.data.toList deep one (⟨tk,ts,tp⟩ :: lr):=⟨_,rfl⟩
 rw [← hRES]
 have HRES:=Jh (hRES.trans HW.out)
 clear hRES
 unfold Ent at hE
 clear h hi hone ho hc
 go_enter Tryz.func273,Tryz.ntmps273
 go_wp2_with fail
 refine HI.out.mono ?_
 rintro e w1 ⟨rfl,hb⟩
 have HB1:=Jh (HB.out.trans (.of_below hb))
 have HP1:=Jh (HP.out.below hb)
 have HKR1:=Jh ((BtP.of_below (pb:=pb) hb).at HR.out (by omega))
 obtain ⟨y0,y1⟩:=HP1.out.deepAt
 have hlt:=HP1.out.lt
 clear hb
 go_wp2_with fail
 refine (HPASS.out _ HP1.out).mono ?_
 rintro e w2 ⟨rfl,hp2,hb2⟩
 have HB2:=Jh (HB1.out.trans hb2)
 have HKR2:=Jh (hb2.at HKR1.out (by omega))
 obtain ⟨hp3,hb3⟩:=hp2.set1 (deep + 1)
 have HP3:=Jh hp3
 have HB3:=Jh (HB2.out.trans hb3)
 have HKR3:=Jh (hb3.at HKR2.out (by omega))
 obtain ⟨z0,z1⟩:=hp2.deepAt
 have hlt2:=hp2.lt
 clear y0 y1 hlt hp2 hb2 hp3 hb3
 go_wp2_with fail
 have HCALL:=Jh (HONE.out _ HB3.out HP3.out)
 cases q : one (deep + 1) lr with
 | error c2 =>
  have HQ:=Jh q
  rw [q] at HCALL
  refine HCALL.out.mono ?_
  rintro e w4 ⟨rfl,hb⟩
  have HB4:=Jh (HB3.out.trans hb)
  clear hb
  go_wp2_with fail
  refine ⟨rfl,?_⟩
  rw [HRES.out,HQ.out]
  exact ⟨rfl,HB4.out⟩
 | ok xr =>
  obtain ⟨x,r⟩:=xr
  have HQ:=Jh q
  rw [q] at HCALL
  refine HCALL.out.mono ?_
  rintro e w4 ho4
  obtain ⟨k1,s1,a1,n1,c1,rfl,hf,hp4,hb4⟩:=OutF.ok ho4
  have hkr4:=hb4.at HKR3.out (by omega)
  obtain ⟨e0,e1,e2,f0,f1,f2⟩:=cf3 hkr4
  obtain ⟨W5,hW5⟩ : ∃ W5,W5 = set3 w4 w.heap.size (.int .u8 k1) (.string s1) (.slice a1 n1 c1):=⟨_,rfl⟩
  have hsz3 : w.heap.size < (w2.setCell ⟨pb,1,none⟩ (.int .i64 ((deep + 1 : Nat) : Int))).heap.size:=(Array.getElem?_eq_some_iff.1 HKR3.out).1
  have HKR5 : Hid (W5.heap[w.heap.size]? = some (.cells #[.int .u8 k1,.string s1,.slice a1 n1 c1] 25 (0,0))):=by rw [Hid,hW5]; exact z31 hkr4 _ _ _
  have HP5 : Hid (Ps pb tb W5 r (deep + 1)):=by rw [Hid,hW5]; exact hp4.set3 (by omega) htb _ _ _
  have HB5 : Hid (BtP pb w W5):=by rw [Hid,hW5]; exact (HB3.out.trans hb4).set3 (Nat.le_refl _) _ _ _
  have HF5 : Hid (FI (fun b => decide (w.heap.size ≤ b) && b != w.heap.size) W5 x (.agg #[.int .u8 k1,.string s1,.slice a1 n1 c1])):=by
   rw [Hid,hW5]
   refine hf.go ⟨by rw [z19]; exact Nat.le_refl _,fun b hbz hpn => ?_⟩
   have hpn':=of_decide_eq_true hpn
   refine ⟨?_,z0w _ _ _ _ _ _ (by omega)⟩
   simp only [Bool.and_eq_true,decide_eq_true_eq,bne_iff_ne,ne_eq]
   omega
  have HNW:=Jh hW5
  have HSZ5 : Hid (w4.heap.size = W5.heap.size):=by rw [Hid,hW5,z19]
  clear hf hp4 hb4 hkr4 ho4 hsz3 q HCALL hW5
  go_wp2_with fail
  have eW : set3 w4 w.heap.size (.int .u8 k1) (.string s1) (.slice a1 n1 c1) = W5:=HNW.out.symm
  unfold set3 at eW
  rw [eW]
  clear eW e0 e1 e2 f0 f1 f2 z0 z1 hlt2
  cases qt : isT c.data.toList r with
  | false =>
   have HTK:=Jh (HT2.out (W5.alloc (.cells #[.string c] 9)) r w4.heap.size (HP5.out.alloc _) (z0b HSZ5.out) qt)
   have HTR : Hid (z0s c.data.toList r = .error (170,z1q r)):=by rw [Hid,z0s,qt]; rfl
   refine HTK.out.mono ?_
   rintro e w6 ⟨rfl,hb6⟩
   have HB6:=Jh ((HB5.out.alloc _).trans hb6)
   clear hb6 qt
   go_wp2_with fail
   refine ⟨rfl,?_⟩
   rw [HRES.out,HQ.out]
   simp only [HTR.out]
   exact ⟨rfl,HB6.out⟩
  | true =>
   have HTK:=Jh (HT1.out (W5.alloc (.cells #[.string c] 9)) r w4.heap.size (HP5.out.alloc _) (z0b HSZ5.out) qt)
   have HTR : Hid (z0s c.data.toList r = .ok r.tail):=by rw [Hid,z0s,qt]; rfl
   refine HTK.out.mono ?_
   rintro e w6 ⟨rfl,hp6,hb6⟩
   have hb56:=(BtP.refl pb W5).alloc (.cells #[.string c] 9) |>.trans hb6
   obtain ⟨hp7,hb7⟩:=hp6.set1 deep
   obtain ⟨z0,z1⟩:=hp6.deepAt
   have hlt6:=hp6.lt
   have hb57:=hb56.trans hb7
   have hkr7:=hb57.at HKR5.out (by omega)
   have hkr6:=hb56.at HKR5.out (by omega)
   obtain ⟨g0,g1,g2,f0,f1,f2⟩:=cf3 hkr7
   obtain ⟨e0,e1,e2,u0,u1,u2⟩:=cf3 hkr6
   have HAT : Hid ((set3 (w6.setCell ⟨pb,1,none⟩ (.int .i64 deep)) w.heap.size (.int .u8 k1) (.string s1) (.slice a1 n1 c1)).heap[w.heap.size]? = some (.cells #[.int .u8 k1,.string s1,.slice a1 n1 c1] 25 (0,0))):=z31 hkr7 _ _ _
   have HFIN : Hid (OutWF pb tb deep w (some (.ok (x,r.tail))) (.returned (.tuple #[.agg #[.int .u8 k1,.string s1,.slice a1 n1 c1],.bool true])) (set3 (w6.setCell ⟨pb,1,none⟩ (.int .i64 deep)) w.heap.size (.int .u8 k1) (.string s1) (.slice a1 n1 c1))):=by
    refine ⟨_,rfl,?_,hp7.set3 (by omega) htb _ _ _,(HB5.out.trans hb57).set3 (Nat.le_refl _) _ _ _⟩
    refine HF5.out.go ⟨?_,fun b hbz hpc => ?_⟩
    ·rw [z19]; exact hb57.2.2.2.1
    ·simp only [Bool.and_eq_true,decide_eq_true_eq,bne_iff_ne,ne_eq] at hpc
     exact ⟨decide_eq_true hpc.1,(z0w _ _ _ _ _ _ hpc.2).trans (hb57.2.2.2.2 b hbz (by omega))⟩
   clear hp6 hb6 hp7 hb7 hb56 hb57 hkr7 hkr6 qt
   go_wp2_with fail
   refine bodyPost_ret (z1b rfl _ _ _ _ _ _ _ _ rfl rfl HAT.out Tryz.underlying25 rfl (by kernel_rfl)) rfl ?_
   rw [HRES.out,HQ.out]
   simp only [HTR.out]
   exact HFIN.out
open Go.RowKit
def OutWX (pb tb deep : Nat) (w : World) (r : Option (PRes X)) (e : Ending) (w' : World) : Prop :=
 match r with
 | none => ∃ l,e = .returned (.tuple #[.agg #[.int .u8 0,.slice none 0 0,.slice none 0 0,.int .i64 0,.bool false,.int .i64 0,.bool false,.bool false],.bool false]) ∧ Ps pb tb w' l deep ∧ BtP pb w w'
 | some (.ok (x,l')) => ∃ v,e = .returned (.tuple #[v,.bool true]) ∧ XI (pN w.heap.size) w' x v ∧ Ps pb tb w' l' deep ∧ BtP pb w w'
 | some (.error c) => e = .panicked (thr c.1 c.2) ∧ BtP pb w w'
theorem z9a (pb tb deep : Nat) (o c : ByteArray) (fv : Value) (l : List Tok) (w : World) (h : Ps pb tb w l deep) (hi : isT o.data.toList l = false) :
 Calls Tryz.prog 246 #[.pointer (some ⟨pb,0,none⟩),.string o,.string c,fv] w fun e w' => e = .returned (.tuple #[.agg #[.int .u8 0,.slice none 0 0,.slice none 0 0,.int .i64 0,.bool false,.int .i64 0,.bool false,.bool false],.bool false]) ∧ Ps pb tb w' l deep ∧ BtP pb w w':=by
 have HI:=Jh (z3y pb tb deep l o _ (h.alloc (.cells #[.int .u8 0,.slice none 0 0,.slice none 0 0,.int .i64 0,.bool false,.int .i64 0,.bool false,.bool false] 47)))
 rw [hi] at HI
 have HP:=Jh (h.alloc (.cells #[.int .u8 0,.slice none 0 0,.slice none 0 0,.int .i64 0,.bool false,.int .i64 0,.bool false,.bool false] 47))
 have HB:=Jh ((BtP.refl pb w).alloc (.cells #[.int .u8 0,.slice none 0 0,.slice none 0 0,.int .i64 0,.bool false,.int .i64 0,.bool false,.bool false] 47))
 have HR : Hid ((w.alloc (.cells #[.int .u8 0,.slice none 0 0,.slice none 0 0,.int .i64 0,.bool false,.int .i64 0,.bool false,.bool false] 47)).heap[w.heap.size]? = some (.cells #[.int .u8 0,.slice none 0 0,.slice none 0 0,.int .i64 0,.bool false,.int .i64 0,.bool false,.bool false] 47 (0,0))):=z0b rfl
 have hpb:=h.lt
 have htb : tb ≠ w.heap.size:=Nat.ne_of_lt h.tb_lt
 clear h hi
 go_enter Tryz.func246,Tryz.ntmps246
 go_wp2_with fail
 refine HI.out.mono ?_
 rintro e w1 ⟨rfl,hb⟩
 have HB1:=Jh (HB.out.trans (.of_below hb))
 have HP1:=Jh (HP.out.below hb)
 have hkr:=(BtP.of_below (pb:=pb) hb).at HR.out (by omega)
 obtain ⟨e0,e1,e2,e3,e4,e5,e6,e7,f0,f1,f2,f3,f4,f5,f6,f7⟩:=cf8 hkr
 have hlt:=(Array.getElem?_eq_some_iff.1 hkr).1
 have HAT : Hid ((set8 w1 w.heap.size (.int .u8 0) (.slice none 0 0) (.slice none 0 0) (.int .i64 0) (.bool false) (.int .i64 0) (.bool false) (.bool false)).heap[w.heap.size]? = some (.cells #[.int .u8 0,.slice none 0 0,.slice none 0 0,.int .i64 0,.bool false,.int .i64 0,.bool false,.bool false] 47 (0,0))):=z23 hkr _ _ _ _ _ _ _ _
 have HFIN : Hid (Ps pb tb (set8 w1 w.heap.size (.int .u8 0) (.slice none 0 0) (.slice none 0 0) (.int .i64 0) (.bool false) (.int .i64 0) (.bool false) (.bool false)) l deep ∧ BtP pb w (set8 w1 w.heap.size (.int .u8 0) (.slice none 0 0) (.slice none 0 0) (.int .i64 0) (.bool false) (.int .i64 0) (.bool false) (.bool false))) :=
  ⟨HP1.out.set8 (by omega) htb _ _ _ _ _ _ _ _,HB1.out.set8 (Nat.le_refl _) _ _ _ _ _ _ _ _⟩
 clear hb hkr
 go_wp2_with fail
 refine bodyPost_ret (z1b rfl _ _ _ _ _ _ _ _ rfl rfl HAT.out Tryz.underlying47 rfl (by kernel_rfl)) rfl ?_
 exact ⟨rfl,HFIN.out⟩
theorem z6e (pb tb : Nat) (o c : ByteArray) (fv : Value) (l : List Tok) (w : World) (h : Ps pb tb w l 64) (hi : isT o.data.toList l = true) :
 Calls Tryz.prog 246 #[.pointer (some ⟨pb,0,none⟩),.string o,.string c,fv] w fun e w' => e = .panicked (thr 171 (z1q l)) ∧ BtP pb w w':=by
 have HI:=Jh (z3y pb tb 64 l o _ (h.alloc (.cells #[.int .u8 0,.slice none 0 0,.slice none 0 0,.int .i64 0,.bool false,.int .i64 0,.bool false,.bool false] 47)))
 rw [hi] at HI
 have HP:=Jh (h.alloc (.cells #[.int .u8 0,.slice none 0 0,.slice none 0 0,.int .i64 0,.bool false,.int .i64 0,.bool false,.bool false] 47))
 have HB:=Jh ((BtP.refl pb w).alloc (.cells #[.int .u8 0,.slice none 0 0,.slice none 0 0,.int .i64 0,.bool false,.int .i64 0,.bool false,.bool false] 47))
 obtain ⟨⟨tk,ts,tp⟩,lr,rfl⟩:=h.ends.cons
 have HF:=Jh (fun (W : World) (hp : Ps pb tb W (⟨tk,ts,tp⟩ :: lr) 64) => z3s pb tb 64 171 tk ts tp lr W hp)
 clear h hi
 go_enter Tryz.func246,Tryz.ntmps246
 go_wp2_with fail
 refine HI.out.mono ?_
 rintro e w1 ⟨rfl,hb⟩
 have HB1:=Jh (HB.out.trans (.of_below hb))
 have HP1:=Jh (HP.out.below hb)
 obtain ⟨y0,y1⟩:=HP1.out.deepAt
 have hlt:=HP1.out.lt
 clear hb
 go_wp2_with fail
 refine (HF.out _ HP1.out).mono ?_
 rintro e w2 ⟨rfl,hb⟩
 have HB2:=Jh (HB1.out.trans (.of_below hb))
 clear hb
 go_wp2_with fail
 exact ⟨rfl,rfl,HB2.out⟩
theorem z9b (pb tb deep : Nat) (o c : ByteArray) (ho : o.data.toList ≠ []) (hc : c.data.toList ≠ []) (K : Nat) (first caps : Array Value) (hE : Ent K) (one : Nat → List Tok → PRes X) (l : List Tok) (w : World) (h : Ps pb tb w l deep) (hd : deep < 64) (hi : isT o.data.toList l = true)
 (hone : ∀ w',BtP pb w w' → Ps pb tb w' l.tail (deep + 1) → Calls Tryz.prog K (first ++ caps) w' (OutX pb tb (deep + 1) w' (one (deep + 1) l.tail))) :
 Calls Tryz.prog 246 #[.pointer (some ⟨pb,0,none⟩),.string o,.string c,.func (.func K) first caps] w (OutWX pb tb deep w (z0p o.data.toList c.data.toList deep one l)):=by
 have HI:=Jh (z3y pb tb deep l o _ (h.alloc (.cells #[.int .u8 0,.slice none 0 0,.slice none 0 0,.int .i64 0,.bool false,.int .i64 0,.bool false,.bool false] 47)))
 rw [hi] at HI
 have HP:=Jh (h.alloc (.cells #[.int .u8 0,.slice none 0 0,.slice none 0 0,.int .i64 0,.bool false,.int .i64 0,.bool false,.bool false] 47))
 have HB:=Jh ((BtP.refl pb w).alloc (.cells #[.int .u8 0,.slice none 0 0,.slice none 0 0,.int .i64 0,.bool false,.int .i64 0,.bool false,.bool false] 47))
 have HR : Hid ((w.alloc (.cells #[.int .u8 0,.slice none 0 0,.slice none 0 0,.int .i64 0,.bool false,.int .i64 0,.bool false,.bool false] 47)).heap[w.heap.size]? = some (.cells #[.int .u8 0,.slice none 0 0,.slice none 0 0,.int .i64 0,.bool false,.int .i64 0,.bool false,.bool false] 47 (0,0))):=z0b rfl
 have hpb:=h.lt
 have htb : tb ≠ w.heap.size:=Nat.ne_of_lt h.tb_lt
 obtain ⟨⟨tk,ts,tp⟩,lr,rfl⟩:=h.ends.cons
 have HPASS:=Jh (fun (W : World) (hp : Ps pb tb W (⟨tk,ts,tp⟩ :: lr) deep) => z3t pb tb deep tk ts tp lr W hp (hp.tail_ends ho hi))
 obtain ⟨wr1,wr2⟩:=wrap_up deep (by omega)
 have hq : ((deep : Int) == 64) = false:=by simp; omega
 have HW : Hid (z0p o.data.toList c.data.toList deep one (⟨tk,ts,tp⟩ :: lr) = some (match one (deep + 1) lr with
  | .error e => .error e
  | .ok (x,r) => match z0s c.data.toList r with
   | .error e => .error e
   | .ok r' => .ok (x,r'))):=by
  rw [Hid]; unfold z0p; rw [hi,if_pos rfl,if_neg (by omega)]; simp only [List.tail_cons]
  rcases one (deep + 1) lr with e | ⟨x,r⟩
  ·rfl
  ·simp only
   cases z0s c.data.toList r <;> rfl
 have HONE:=Jh hone
 simp only [List.tail_cons] at HONE
 have HT1:=Jh (fun (W : World) (r : List Tok) (g : Nat) (hp : Ps pb tb W r (deep + 1)) hg ht => z1t pb tb (deep + 1) g r c hc W hp hg ht)
 have HT2:=Jh (fun (W : World) (r : List Tok) (g : Nat) (hp : Ps pb tb W r (deep + 1)) hg ht => z1u pb tb (deep + 1) g r c hc W hp hg ht)
 obtain ⟨RES,hRES⟩ : ∃ RES,RES = z0p o.data.toList c.data.toList deep one (⟨tk,ts,tp⟩ :: lr):=⟨_,rfl⟩
 rw [← hRES]
 have HRES:=Jh (hRES.trans HW.out)
 clear hRES
 unfold Ent at hE
 clear h hi hone ho hc
 go_enter Tryz.func246,Tryz.ntmps246
 go_wp2_with fail
 refine HI.out.mono ?_
 rintro e w1 ⟨rfl,hb⟩
 have HB1:=Jh (HB.out.trans (.of_below hb))
 have HP1:=Jh (HP.out.below hb)
 have HKR1:=Jh ((BtP.of_below (pb:=pb) hb).at HR.out (by omega))
 obtain ⟨y0,y1⟩:=HP1.out.deepAt
 have hlt:=HP1.out.lt
 clear hb
 go_wp2_with fail
 refine (HPASS.out _ HP1.out).mono ?_
 rintro e w2 ⟨rfl,hp2,hb2⟩
 have HB2:=Jh (HB1.out.trans hb2)
 have HKR2:=Jh (hb2.at HKR1.out (by omega))
 obtain ⟨hp3,hb3⟩:=hp2.set1 (deep + 1)
 have HP3:=Jh hp3
 have HB3:=Jh (HB2.out.trans hb3)
 have HKR3:=Jh (hb3.at HKR2.out (by omega))
 obtain ⟨z0,z1⟩:=hp2.deepAt
 have hlt2:=hp2.lt
 clear y0 y1 hlt hp2 hb2 hp3 hb3
 go_wp2_with fail
 have HCALL:=Jh (HONE.out _ HB3.out HP3.out)
 cases q : one (deep + 1) lr with
 | error c2 =>
  have HQ:=Jh q
  rw [q] at HCALL
  refine HCALL.out.mono ?_
  rintro e w4 ⟨rfl,hb⟩
  have HB4:=Jh (HB3.out.trans hb)
  clear hb
  go_wp2_with fail
  refine ⟨rfl,?_⟩
  rw [HRES.out,HQ.out]
  exact ⟨rfl,HB4.out⟩
 | ok xr =>
  obtain ⟨x,r⟩:=xr
  have HQ:=Jh q
  rw [q] at HCALL
  refine HCALL.out.mono ?_
  rintro e w4 ho4
  obtain ⟨k1,a1,n1,c1,b1,o1,qq1,lo1,ls1,hi1,hs1,op1,rfl,hf,hp4,hb4⟩:=OutX.ok ho4
  have hkr4:=hb4.at HKR3.out (by omega)
  obtain ⟨e0,e1,e2,e3,e4,e5,e6,e7,f0,f1,f2,f3,f4,f5,f6,f7⟩:=cf8 hkr4
  obtain ⟨W5,hW5⟩ : ∃ W5,W5 = set8 w4 w.heap.size (.int .u8 k1) (.slice a1 n1 c1) (.slice b1 o1 qq1) (.int .i64 lo1) (.bool ls1) (.int .i64 hi1) (.bool hs1) (.bool op1):=⟨_,rfl⟩
  have hsz3 : w.heap.size < (w2.setCell ⟨pb,1,none⟩ (.int .i64 ((deep + 1 : Nat) : Int))).heap.size:=(Array.getElem?_eq_some_iff.1 HKR3.out).1
  have HKR5 : Hid (W5.heap[w.heap.size]? = some (.cells #[.int .u8 k1,.slice a1 n1 c1,.slice b1 o1 qq1,.int .i64 lo1,.bool ls1,.int .i64 hi1,.bool hs1,.bool op1] 47 (0,0))):=by rw [Hid,hW5]; exact z23 hkr4 _ _ _ _ _ _ _ _
  have HP5 : Hid (Ps pb tb W5 r (deep + 1)):=by rw [Hid,hW5]; exact hp4.set8 (by omega) htb _ _ _ _ _ _ _ _
  have HB5 : Hid (BtP pb w W5):=by rw [Hid,hW5]; exact (HB3.out.trans hb4).set8 (Nat.le_refl _) _ _ _ _ _ _ _ _
  have HF5 : Hid (XI (fun b => decide (w.heap.size ≤ b) && b != w.heap.size) W5 x (.agg #[.int .u8 k1,.slice a1 n1 c1,.slice b1 o1 qq1,.int .i64 lo1,.bool ls1,.int .i64 hi1,.bool hs1,.bool op1])):=by
   rw [Hid,hW5]
   refine hf.go ⟨by rw [z0m]; exact Nat.le_refl _,fun b hbz hpn => ?_⟩
   have hpn':=of_decide_eq_true hpn
   refine ⟨?_,z09 _ _ _ _ _ _ _ _ _ _ _ (by omega)⟩
   simp only [Bool.and_eq_true,decide_eq_true_eq,bne_iff_ne,ne_eq]
   omega
  have HNW:=Jh hW5
  have HSZ5 : Hid (w4.heap.size = W5.heap.size):=by rw [Hid,hW5,z0m]
  clear hf hp4 hb4 hkr4 ho4 hsz3 q HCALL hW5
  go_wp2_with fail
  have eW : set8 w4 w.heap.size (.int .u8 k1) (.slice a1 n1 c1) (.slice b1 o1 qq1) (.int .i64 lo1) (.bool ls1) (.int .i64 hi1) (.bool hs1) (.bool op1) = W5:=HNW.out.symm
  unfold set8 at eW
  rw [eW]
  clear eW e0 e1 e2 e3 e4 e5 e6 e7 f0 f1 f2 f3 f4 f5 f6 f7 z0 z1 hlt2
  cases qt : isT c.data.toList r with
  | false =>
   have HTK:=Jh (HT2.out (W5.alloc (.cells #[.string c] 9)) r w4.heap.size (HP5.out.alloc _) (z0b HSZ5.out) qt)
   have HTR : Hid (z0s c.data.toList r = .error (170,z1q r)):=by rw [Hid,z0s,qt]; rfl
   refine HTK.out.mono ?_
   rintro e w6 ⟨rfl,hb6⟩
   have HB6:=Jh ((HB5.out.alloc _).trans hb6)
   clear hb6 qt
   go_wp2_with fail
   refine ⟨rfl,?_⟩
   rw [HRES.out,HQ.out]
   simp only [HTR.out]
   exact ⟨rfl,HB6.out⟩
  | true =>
   have HTK:=Jh (HT1.out (W5.alloc (.cells #[.string c] 9)) r w4.heap.size (HP5.out.alloc _) (z0b HSZ5.out) qt)
   have HTR : Hid (z0s c.data.toList r = .ok r.tail):=by rw [Hid,z0s,qt]; rfl
   refine HTK.out.mono ?_
   rintro e w6 ⟨rfl,hp6,hb6⟩
   have hb56:=(BtP.refl pb W5).alloc (.cells #[.string c] 9) |>.trans hb6
   obtain ⟨hp7,hb7⟩:=hp6.set1 deep
   obtain ⟨z0,z1⟩:=hp6.deepAt
   have hlt6:=hp6.lt
   have hb57:=hb56.trans hb7
   have hkr7:=hb57.at HKR5.out (by omega)
   have hkr6:=hb56.at HKR5.out (by omega)
   obtain ⟨g0,g1,g2,g3,g4,g5,g6,g7,f0,f1,f2,f3,f4,f5,f6,f7⟩:=cf8 hkr7
   obtain ⟨e0,e1,e2,e3,e4,e5,e6,e7,u0,u1,u2,u3,u4,u5,u6,u7⟩:=cf8 hkr6
   have HAT : Hid ((set8 (w6.setCell ⟨pb,1,none⟩ (.int .i64 deep)) w.heap.size (.int .u8 k1) (.slice a1 n1 c1) (.slice b1 o1 qq1) (.int .i64 lo1) (.bool ls1) (.int .i64 hi1) (.bool hs1) (.bool op1)).heap[w.heap.size]? = some (.cells #[.int .u8 k1,.slice a1 n1 c1,.slice b1 o1 qq1,.int .i64 lo1,.bool ls1,.int .i64 hi1,.bool hs1,.bool op1] 47 (0,0))):=z23 hkr7 _ _ _ _ _ _ _ _
   have HFIN : Hid (OutWX pb tb deep w (some (.ok (x,r.tail))) (.returned (.tuple #[.agg #[.int .u8 k1,.slice a1 n1 c1,.slice b1 o1 qq1,.int .i64 lo1,.bool ls1,.int .i64 hi1,.bool hs1,.bool op1],.bool true])) (set8 (w6.setCell ⟨pb,1,none⟩ (.int .i64 deep)) w.heap.size (.int .u8 k1) (.slice a1 n1 c1) (.slice b1 o1 qq1) (.int .i64 lo1) (.bool ls1) (.int .i64 hi1) (.bool hs1) (.bool op1))):=by
    refine ⟨_,rfl,?_,hp7.set8 (by omega) htb _ _ _ _ _ _ _ _,(HB5.out.trans hb57).set8 (Nat.le_refl _) _ _ _ _ _ _ _ _⟩
    refine HF5.out.go ⟨?_,fun b hbz hpc => ?_⟩
    ·rw [z0m]; exact hb57.2.2.2.1
    ·simp only [Bool.and_eq_true,decide_eq_true_eq,bne_iff_ne,ne_eq] at hpc
     exact ⟨decide_eq_true hpc.1,(z09 _ _ _ _ _ _ _ _ _ _ _ hpc.2).trans (hb57.2.2.2.2 b hbz (by omega))⟩
   clear hp6 hb6 hp7 hb7 hb56 hb57 hkr7 hkr6 qt
   go_wp2_with fail
   refine bodyPost_ret (z1b rfl _ _ _ _ _ _ _ _ rfl rfl HAT.out Tryz.underlying47 rfl (by kernel_rfl)) rfl ?_
   rw [HRES.out,HQ.out]
   simp only [HTR.out]
   exact HFIN.out
end Go.Proofs.YtockinpjfhhkoaaGreatDoor
