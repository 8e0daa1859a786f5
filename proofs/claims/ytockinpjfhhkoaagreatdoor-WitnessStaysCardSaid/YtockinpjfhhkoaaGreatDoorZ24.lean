/- prop.Holds walked. -/
import Derived.Test.YtockinpjfhhkoaaGreatDoorZ18
import Derived.Test.YtockinpjfhhkoaaGreatDoorZ23
import Derived.Test.YtockinpjfhhkoaaGreatDoorZ05
import Derived.Deep.RegionHeld3
import Derived.Deep.RegionHeld
import Derived.Deep.Cut
import Derived.LoopTactic
import Derived.Test.YtockinpjfhhkoaaGreatDoorZ15
import Derived.Test.YtockinpjfhhkoaaGreatDoorZ16
import Derived.MapKept
import Derived.Carry
import Derived.Test.YtockinpjfhhkoaaGreatDoorZ13
import Derived.Test.YtockinpjfhhkoaaGreatDoorZ06
set_option maxRecDepth 100000
set_option maxHeartbeats 16000000
open Go.Lib renaming hid → Jh
namespace Go.Proofs.YtockinpjfhhkoaaGreatDoor
open Go.RowKit
theorem namesR_len {l : List ByteArray} (h : z0z l = 0) : l.length ≤ 8:=by
 unfold z0z at h
 rcases Nat.lt_or_ge 8 l.length with h1 | h1
 ·simp [h1] at h
 ·exact h1
def z3l (names : List ByteArray) (n : Nat) (t : FT n) (on : Int) : Bool × Int :=
 if fmlR names n t ≠ 0 then (false,fmlR names n t) else if 0 < on / 2 ^ names.length then (false,2) else (z2q names n t on,0)
theorem holds22_any (names : List ByteArray) (nv : Value) (hs : ∀ s ∈ names,s.size ≤ 1048576) (n : Nat) (t : FT n) (v : Value) (on : Int) (w : World) (ho : 0 ≤ on) (ho2 : on ≤ 255) (hr : Rdy w) (hn : NRep w w.heap.size nv names) (hf : FRep w w.heap.size n t v) :
 Calls Tryz.prog 40 #[nv,v,.int .u8 on] w fun e w' => e = .returned (.tuple #[.bool (z3l names n t on).1,.int .i64 (z3l names n t on).2]) ∧ Below w.heap.size w w':=by
 obtain ⟨k,s,a,l,c,rfl⟩:=hf.shape
 obtain ⟨na,nc,rfl,_⟩:=id hn
 have hb : Below w.heap.size w (w.alloc (.cells #[.int .u8 k,.string s,.slice a l c] 25)):=(Below.refl _ _).alloc (Nat.le_refl _) _
 have HFM:=Jh (formula16_any names _ hs n t _ _ (hr.below hb) (hn.up hb hb.size) (hf.up hb hb.size))
 have HB:=Jh hb
 have HF:=Jh hf
 have HN:=Jh hn
 clear hr hs hb hf hn
 go_enter Tryz.func40,Tryz.ntmps40
 go_wp2_with fail
 refine HFM.out.mono ?_
 rintro e w1 ⟨rfl,hb1⟩
 obtain ⟨x0,x1,x2,hz⟩:=box_cells3 hb1
 have HB1:=Jh (HB.out.trans (hb1.mono HB.out.size))
 clear hb1
 by_cases h0 : fmlR names n t = 0
 ·obtain ⟨g1,g2,_,g4⟩:=fmlR_zero.1 h0
  have G2:=Jh g2
  have G4:=Jh g4
  have hnl:=namesR_len g1
  rw [h0]
  have H0:=Jh h0
  clear g1 g2 g4 h0
  by_cases hon : 0 < on / 2 ^ names.length
  ·have HR : Hid (z3l names n t on = (false,2)):=by rw [Hid,z3l,H0.out,if_neg (by simp),if_pos hon]
   go_wp2_with fail
   all_goals go_ret2
   all_goals exact ⟨by rw [HR.out]; rfl,HB1.out⟩
  ·have HR : Hid (z3l names n t on = (z2q names n t on,0)):=by rw [Hid,z3l,H0.out,if_neg (by simp),if_neg hon]
   have HMD:=made48_any names (.slice na names.length nc) hnl n t _ w1 (HN.out.up HB1.out HB1.out.size) (HF.out.up HB1.out HB1.out.size) G2.out G4.out
   have HM:=Jh HMD
   clear HMD
   go_wp2_with fail
   refine HM.out.mono ?_
   rintro e w2 ⟨⟨v',rfl,hv⟩,hb2⟩
   have HB2:=Jh (HB1.out.trans (hb2.mono HB1.out.size))
   obtain ⟨K,caps,rfl,hK,hC⟩:=hv w2 fun _ _ _ => rfl
   have HC:=Jh (hC on)
   unfold Ent at hK
   clear hb2 hv hC
   go_wp2_with fail
   refine HC.out.mono ?_
   rintro e w3 ⟨rfl,rfl⟩
   go_wp2_with fail
   all_goals go_ret2
   all_goals exact ⟨by rw [HR.out]; rfl,HB2.out⟩
 ·have HR : Hid (z3l names n t on = (false,fmlR names n t)):=by rw [Hid,z3l,if_pos h0]
  have q : (fmlR names n t != 0) = true:=by simpa using h0
  clear h0
  go_wp2_with fail
  all_goals go_ret2
  all_goals exact ⟨by rw [HR.out]; rfl,HB1.out⟩
open Go.RowKit
def z2t (names : List ByteArray) {m : Nat} (f : FT m) (on : Int) : Bool:=(z3l names m f on).2 == 0 && (z3l names m f on).1
def SumOk (l : List (Int × Int)) : Prop:=∀ k,k ≤ l.length → 0 ≤ sumG 0 (l.take k) ∧ sumG 0 (l.take k) ≤ 1152921504606846976
theorem sum_succ (l : List (Int × Int)) (k : Nat) (h : k < l.length) : sumG 0 (l.take (k + 1)) = sumG 0 (l.take k) + (l[k]).1:=by
 unfold sumG
 rw [List.take_succ_eq_append_getElem h,List.foldl_append]; rfl
theorem seg_round {at_ x at2 : Int} {j n : Nat} (h0 : 0 ≤ at_ ∧ at_ ≤ 1152921504606846976) (h : at_ + x = at2) (h2 : 0 ≤ at2 ∧ at2 ≤ 1152921504606846976) (hj : j < n) (hn : n ≤ 9223372036854775807) :
 IntKind.i64.wrap (at_ + x) = at2 ∧ wrap64 (at_ + x) = at2 ∧ IntKind.i64.wrap ((j : Int) + 1) = (j : Int) + 1 ∧ wrap64 ((j : Int) + 1) = (j : Int) + 1 ∧ in64 at_ ∧ in64 at2 ∧ (0 : Int) ≤ (j : Int) ∧ (j : Int) < (n : Int):=by
 refine ⟨?_,?_,IntWalk.i64_in _ (by omega),IntWalk.wrap64_in _ (by omega),⟨by omega,by omega⟩,⟨by omega,by omega⟩,by omega,by omega⟩
 ·rw [h]; exact IntWalk.i64_in _ (by omega)
 ·rw [h]; exact IntWalk.wrap64_in _ (by omega)
theorem meas {j n : Nat} (h : j < n) : n - (intOf (.int .i64 ((j : Int) + 1))).toNat < n - (intOf (.int .i64 (j : Int))).toNat:=by
 show n - ((j : Int) + 1).toNat < n - (j : Int).toNat
 omega
theorem in64_of {x : Int} (h : 0 ≤ x ∧ x ≤ 1152921504606846976) : in64 x:=⟨by omega,by omega⟩
theorem go_step (hold : Int → Bool) (t u : Int × Int) (l : List (Int × Int)) (k : Nat) (h : k < l.length) (at_ : Int) :
 z2j hold t u at_ (l.drop k) = if z07 (z0i at_) u && z07 t (z0i (at_ + (l[k]).1)) && !hold (l[k]).2 then none else z2j hold t u (at_ + (l[k]).1) (l.drop (k + 1)):=by
 rw [List.drop_eq_getElem_cons h,z2j]
theorem toF_inj : ∀ (n : Nat) (t t' : FT n),toF n t = toF n t' → t = t'
 | 0,t,_,_ => nomatch t
 | n + 1,(k,s,of),(k',s',of'),h => by
  have h' : F.mk k s (of.map (toF n)) = F.mk k' s' (of'.map (toF n)):=h
  injection h' with h1 h2 h3
  have : ∀ (l l' : List (FT n)),l.map (toF n) = l'.map (toF n) → l = l':=by
   intro l
   induction l with
   | nil => intro l' h; cases l' with
    | nil => rfl
    | cons _ _ => simp at h
   | cons x r ih => intro l' h; cases l' with
    | nil => simp at h
    | cons y r' =>
     simp only [List.map_cons,List.cons.injEq] at h
     rw [toF_inj n x y h.1,ih r' h.2]
  rw [h1,h2,this of of' h3]
open Classical in
noncomputable def z0v (names : List ByteArray) (m : Nat) (f : F) (on : Int) : Bool:=if h : ∃ t : FT m,toF m t = f then z2t names h.choose on else false
theorem holdE_at (names : List ByteArray) {m : Nat} (t : FT m) : z0v names m (toF m t) = z2t names t:=by
 funext on
 unfold z0v
 have h : ∃ t' : FT m,toF m t' = toF m t:=⟨t,rfl⟩
 rw [dif_pos h,toF_inj m _ _ h.choose_spec]
def okT : (n : Nat) → PT n → Prop
 | 0,_ => True
 | n + 1,t => (∀ s ∈ t.2.2.1,in64 s.1) ∧ t.2.2.1.length ≤ 100000 ∧ ∀ y ∈ t.2.2.2,okT n y
def EnvC (names : List ByteArray) (nv : Value) (la : Option Addr) (lc : Nat) (l : List (Int × Int)) (W : World) : Prop:=Rdy W ∧ NRep W W.heap.size nv names ∧ Segs W W.heap.size (.slice la l.length lc) l
theorem EnvC.up {names : List ByteArray} {nv : Value} {la : Option Addr} {lc : Nat} {l : List (Int × Int)} {w W : World} (h : EnvC names nv la lc l w) (hb : Below w.heap.size w W) : EnvC names nv la lc l W :=
 ⟨h.1.below hb,h.2.1.up hb hb.size,Segs.mono hb.size (Segs.below hb h.2.2)⟩
def ShowsC (names : List ByteArray) (m : Nat) (nv : Value) (la : Option Addr) (lc : Nat) (l : List (Int × Int)) (d n : Nat) : Prop :=
 ∀ (x : XT m d) (xv : Value) (a p b q : Int) (t : PT n) (wv : Value) (W : World),EnvC names nv la lc l W → XRep W W.heap.size m d x xv → allX z0c d x = true → allX z2s d x = true →
  PRep W W.heap.size n t wv → okT n t → mayP (a,p) = true → mayP (b,q) = true → in64 a → in64 b →
  Calls Tryz.prog 53 #[.agg #[nv,.slice la l.length lc],xv,.agg #[.int .i64 a,.int .i64 p],.agg #[.int .i64 b,.int .i64 q],wv] W fun e w' =>
   e = .returned (.bool (z05 (z0v names m) l n (toX d x) (a,p) (b,q) t)) ∧ Below W.heap.size W w'
def PRow (w : World) (B n : Nat) (a : Option Addr) (of : List (PT n)) : Prop:=of = [] ∨ ∃ b off,a = some ⟨b,off,none⟩ ∧ b < B ∧
 ∀ i (h : i < of.length),∃ v0 v1 v2 v3,w.cell? ⟨b,off + i * 4,none⟩ = some v0 ∧ w.cell? ⟨b,off + i * 4 + 1,none⟩ = some v1 ∧
  w.cell? ⟨b,off + i * 4 + 2,none⟩ = some v2 ∧ w.cell? ⟨b,off + i * 4 + 3,none⟩ = some v3 ∧ PRep w B n of[i] (.agg #[v0,v1,v2,v3])
theorem PRow.at {w : World} {B n : Nat} {a : Option Addr} {of : List (PT n)} (h : PRow w B n a of) (i : Nat) (hi : i < of.length) :
 ∃ b off k s b1 n1 d1 b2 n2 d2,a = some ⟨b,off,none⟩ ∧ b < B ∧ w.cell? ⟨b,off + i * 4,none⟩ = some (.int .u8 k) ∧ w.cell? ⟨b,off + i * 4 + 1,none⟩ = some (.int .u8 s) ∧
  w.cell? ⟨b,off + i * 4 + 2,none⟩ = some (.slice b1 n1 d1) ∧ w.cell? ⟨b,off + i * 4 + 3,none⟩ = some (.slice b2 n2 d2) ∧ PRep w B n of[i] (.agg #[.int .u8 k,.int .u8 s,.slice b1 n1 d1,.slice b2 n2 d2]):=by
 rcases h with h | ⟨b,off,ha,hb,hc⟩
 ·rw [h] at hi; exact absurd hi (by simp)
 ·obtain ⟨v0,v1,v2,v3,e0,e1,e2,e3,hp⟩:=hc i hi
  obtain ⟨k,s,b1,n1,d1,b2,n2,d2,hv⟩:=hp.shape
  have hv' : v0 = .int .u8 k ∧ v1 = .int .u8 s ∧ v2 = .slice b1 n1 d1 ∧ v3 = .slice b2 n2 d2:=by simpa using hv
  obtain ⟨rfl,rfl,rfl,rfl⟩:=hv'
  exact ⟨b,off,k,s,b1,n1,d1,b2,n2,d2,ha,hb,e0,e1,e2,e3,hp⟩
theorem PRep.up {w w' : World} {B B' : Nat} (hb : Below B w w') (hB : B ≤ B') : ∀ {n : Nat} {t : PT n} {v : Value},PRep w B n t v → PRep w' B' n t v
 | 0,_,_,h => h.elim
 | n + 1,t,v,h => by
  obtain ⟨va,a,cap,hv,hm,⟨ra,rc,rv,rm,hr⟩,h⟩:=h
  refine ⟨va,a,cap,hv,hm,⟨ra,rc,rv,rm,?_⟩,?_⟩
  ·rcases hr with hr | ⟨b,off,ha,hlt,hc⟩
   ·exact .inl hr
   ·exact .inr ⟨b,off,ha,Nat.lt_of_lt_of_le hlt hB,fun i hi => ⟨(hb.cell (p:=⟨b,_,none⟩) hlt).trans (hc i hi).1,(hb.cell (p:=⟨b,_,none⟩) hlt).trans (hc i hi).2⟩⟩
  ·rcases h with h | ⟨b,off,ha,hlt,hc⟩
   ·exact .inl h
   ·refine .inr ⟨b,off,ha,Nat.lt_of_lt_of_le hlt hB,fun i hi => ?_⟩
    obtain ⟨v0,v1,v2,v3,c0,c1,c2,c3,hp⟩:=hc i hi
    exact ⟨v0,v1,v2,v3,(hb.cell (p:=⟨b,_,none⟩) hlt).trans c0,(hb.cell (p:=⟨b,_,none⟩) hlt).trans c1,(hb.cell (p:=⟨b,_,none⟩) hlt).trans c2,(hb.cell (p:=⟨b,_,none⟩) hlt).trans c3,PRep.up hb hB hp⟩
theorem PRow.up {w w' : World} {B B' n : Nat} {a : Option Addr} {of : List (PT n)} (h : PRow w B n a of) (hb : Below B w w') (hB : B ≤ B') : PRow w' B' n a of:=by
 rcases h with h | ⟨b,off,ha,hlt,hc⟩
 ·exact .inl h
 ·refine .inr ⟨b,off,ha,Nat.lt_of_lt_of_le hlt hB,fun i hi => ?_⟩
  obtain ⟨v0,v1,v2,v3,c0,c1,c2,c3,hp⟩:=hc i hi
  exact ⟨v0,v1,v2,v3,(hb.cell (p:=⟨b,_,none⟩) hlt).trans c0,(hb.cell (p:=⟨b,_,none⟩) hlt).trans c1,(hb.cell (p:=⟨b,_,none⟩) hlt).trans c2,(hb.cell (p:=⟨b,_,none⟩) hlt).trans c3,PRep.up hb hB hp⟩
open Go.RowKit
theorem upd163 {w : World} {r : Nat} {es : Array MapEntry} {clock : Nat} (k : Int) (val : Value) (hb : w.heap[r]? = some (.map es clock)) (hn : Instr.findNow (.int .u8) (.int .u8 k) es.toList 0 = some none) :
 ∃ w',(Instr.mapUpdate 163 (.map (some r)) (.int .u8 k) val).run Tryz.prog w = .ok () w' ∧ w'.heap[r]? = some (.map (es.push { key:=.int .u8 k,val:=val,born:=clock }) (clock + 1)) ∧ Bt r w w':=by
 refine ⟨{ w with heap:=w.heap.setIfInBounds r (.map (es.push { key:=.int .u8 k,val:=val,born:=clock }) (clock + 1)) },?_,?_,?_⟩
 ·have hc:=MapKept.run_checkKey (P:=Tryz.prog) (w:=w) (k:=.int .u8 k) Tryz.underlying5 (by simp [MapKept.IsKey]) false 9999
  simp [Instr.mapUpdate,run_underlying Tryz.underlying163,MapKept.run_getObj_map hb,hc,MapKept.run_findKey Tryz.underlying5 hn,MapKept.run_setObj_map _ hb,Result.andThen]
 ·exact (MapKept.heap_set hb).1
 ·exact ⟨rfl,rfl,rfl,by simp,fun j _ hj => (MapKept.heap_set hb).2 j hj⟩
def KnownAt (w : World) (r : Nat) : Prop:=w.heap[r]? = some (.map #[{ key:=.int .u8 1,val:=.func (.func 171) #[] #[],born:=0 },{ key:=.int .u8 2,val:=.func (.func 172) #[] #[],born:=1 },{ key:=.int .u8 3,val:=.func (.func 173) #[] #[],born:=2 },{ key:=.int .u8 4,val:=.func (.func 174) #[] #[],born:=3 },{ key:=.int .u8 5,val:=.func (.func 175) #[] #[],born:=4 },{ key:=.int .u8 6,val:=.func (.func 176) #[] #[],born:=5 }] 6)
theorem z8y {w : World} {r : Nat} (h : KnownAt w r) (k : Int) (v : Value) (i : Nat) (hn : Instr.findNow (.int .u8) (.int .u8 k) [{ key:=.int .u8 1,val:=.func (.func 171) #[] #[],born:=0 },{ key:=.int .u8 2,val:=.func (.func 172) #[] #[],born:=1 },{ key:=.int .u8 3,val:=.func (.func 173) #[] #[],born:=2 },{ key:=.int .u8 4,val:=.func (.func 174) #[] #[],born:=3 },{ key:=.int .u8 5,val:=.func (.func 175) #[] #[],born:=4 },{ key:=.int .u8 6,val:=.func (.func 176) #[] #[],born:=5 }] 0 = some (some (i,v))) :
 (Instr.lookup 163 (.map (some r)) (.int .u8 k) false).run Tryz.prog w = .ok v w:=by
 have hc:=MapKept.run_checkKey (P:=Tryz.prog) (w:=w) (k:=.int .u8 k) Tryz.underlying5 (by simp [MapKept.IsKey]) false 9999
 simp [Instr.lookup,run_underlying Tryz.underlying163,MapKept.run_getObj_map h,hc,MapKept.run_findKey Tryz.underlying5 hn,Result.andThen]
theorem z2p (w : World) : Calls Tryz.prog 102 #[] w fun e w' => (e = .returned (.map (some w.heap.size)) ∧ KnownAt w' w.heap.size) ∧ Below w.heap.size w w':=by
 obtain ⟨W1,hW1⟩ : ∃ W1,W1 = w.alloc (.map #[] 0):=⟨_,rfl⟩
 have h1 : W1.heap[w.heap.size]? = some (.map #[] 0):=by rw [hW1]; exact z01 rfl
 have e0 : (Instr.makeMap 163 none).run Tryz.prog w = .ok (.map (some w.heap.size)) W1:=by rw [hW1]; rfl
 have b1 : Below w.heap.size w W1:=by rw [hW1]; exact z08 _ _
 obtain ⟨W2,e1,h2,c1⟩:=upd163 1 (.func (.func 171) #[] #[]) h1 rfl
 obtain ⟨W3,e2,h3,c2⟩:=upd163 2 (.func (.func 172) #[] #[]) h2 rfl
 obtain ⟨W4,e3,h4,c3⟩:=upd163 3 (.func (.func 173) #[] #[]) h3 rfl
 obtain ⟨W5,e4,h5,c4⟩:=upd163 4 (.func (.func 174) #[] #[]) h4 rfl
 obtain ⟨W6,e5,h6,c5⟩:=upd163 5 (.func (.func 175) #[] #[]) h5 rfl
 obtain ⟨W7,e6,h7,c6⟩:=upd163 6 (.func (.func 176) #[] #[]) h6 rfl
 have HK : Hid (KnownAt W7 w.heap.size):=h7
 have HB : Hid (Below w.heap.size w W7):=b1.trans ((c1.trans (c2.trans (c3.trans (c4.trans (c5.trans c6))))).below (Nat.le_refl _) b1.size)
 clear hW1 h1 b1 h2 h3 h4 h5 h6 h7 c1 c2 c3 c4 c5 c6
 go_enter Tryz.func102,Tryz.ntmps102
 go_wp2_with fail
 all_goals go_ret
 all_goals exact ⟨⟨rfl,HK.out⟩,HB.out⟩
open Go.RowKit
open Go.RowKit
open Go.RowKit
theorem z3j (l : List ByteArray) (v : Value) (w : World) (hn : NRep w w.heap.size v l) :
 Calls Tryz.prog 13 #[v] w fun e w' => e = .returned (.bool (z5r l)) ∧ w' = w:=by
 obtain ⟨a,c,rfl,hm,hn⟩:=hn
 have HD:=Jh (gnGo_drop l)
 have HS:=Jh gnGo_stop
 have HE:=Jh (gnGo_end l)
 have HF : Hid (∀ z,gnGo (l.drop 0) 0 = z → z5r l = decide (5000 < z)):=fun z h => by unfold z5r; rw [← h]; rfl
 go_enter Tryz.func13,Tryz.ntmps13
 go_wp2_with fail
 go_loopw [3,4] (fun q i wr => ∃ (j : Nat) (z : Int),j ≤ l.length ∧ i = .int .i64 j ∧ q = .int .i64 z ∧ Hid (gnGo (l.drop 0) 0 = gnGo (l.drop j) z) ∧ wr = w) (fun _ i _ => l.length - (intOf i).toNat)
 case atStart => exact ⟨0,0,Nat.zero_le _,rfl,rfl,rfl,rfl⟩
 case round =>
  obtain ⟨j,z,hj,rfl,rfl,HT,rfl⟩:=hrel
  by_cases hlt : j < l.length
  ·by_cases hq : z < 10000
   ·rcases hn with hn | ⟨b,off,rfl,hb,hc⟩
    ·rw [hn] at hlt; exact absurd hlt (by simp)
    ·have c0:=hc j hlt
     have HC:=Jh hc
     have HSS:=Jh (HD.out j z hlt hq)
     clear hc
     go_wp2_with fail
     go_roundw
     case rel => exact ⟨j + 1,_,by omega,by go_num,rfl,HT.out.trans HSS.out,trivial⟩
     case measure => simp [intOf]; omega
   ·have HSS:=Jh (HF.out z (HT.out.trans (HS.out (l.drop j) z (by omega))))
    clear hn
    go_wp2_with fail
    all_goals go_ret
    all_goals exact ⟨z02 HSS.out.symm,rfl⟩
  ·have hje : j = l.length:=by omega
   subst hje
   have HSS:=Jh (HF.out z (HT.out.trans (HE.out z)))
   clear hn
   go_wp2_with fail
   all_goals go_ret
   all_goals exact ⟨z02 HSS.out.symm,rfl⟩
open Go.RowKit
theorem szL_end {α : Type} (f : α → Int → Int) (most n : Int) (l : List α) : szL f most (l.drop l.length) n = n:=by rw [List.drop_length]; rfl
theorem size49_any (n : Nat) : ∀ (t : FT n) (v : Value) (most : Int) (w : World),FRep w w.heap.size n t v →
 Calls Tryz.prog 39 #[v,.int .i64 most] w fun e w' => e = .returned (.int .i64 (z38 n t most)) ∧ Below w.heap.size w w':=by
 induction n with
 | zero => intro t v most w h; exact h.elim
 | succ n ih =>
  intro t v most w h
  obtain ⟨k,s,of⟩:=t
  obtain ⟨a,c,rfl,hR⟩:=h
  dsimp only at hR ⊢
  have hm:=hR.1
  have HR:=Jh hR
  have IH:=Jh ih
  have HE : Hid (z38 (n + 1) (k,s,of) most = szL (z38 n) most (of.drop 0) (wrap64 (1 + s.size))):=rfl
  have HZ : Hid (Below w.heap.size w (w.alloc (.cells #[.int .u8 k,.string s,.slice a of.length c] 25))):=(Below.refl _ _).alloc (Nat.le_refl _) _
  clear hR ih
  go_enter Tryz.func39,Tryz.ntmps39
  go_wp2_with fail
  go_loopw [5,6] (fun q i wr => ∃ (j : Nat) (z : Int),j ≤ of.length ∧ i = .int .i64 j ∧ q = .int .i64 z ∧ Hid (z38 (n + 1) (k,s,of) most = szL (z38 n) most (of.drop j) z) ∧ Below w.heap.size w wr ∧ w.heap.size < wr.heap.size ∧ wr.cell? ⟨w.heap.size,2,none⟩ = some (.slice a of.length c)) (fun _ i _ => of.length - (intOf i).toNat)
  case atStart => exact ⟨0,_,Nat.zero_le _,rfl,rfl,HE,HZ.out,by simp,by simp [World.cell?_alloc_at]⟩
  case round =>
   obtain ⟨j,z,hj,rfl,rfl,HT,hbw,hsz,hbox⟩:=hrel
   have HBW:=Jh hbw
   by_cases hlt : j < of.length
   ·by_cases hq : z ≤ most
    ·obtain ⟨b,off,k',s',sa,sl,sc,rfl,hbl,c0,c1,c2,hr⟩:=(FRow.up HR.out hbw (Nat.le_refl _)).at j hlt
     have hz:=hbw.size
     have hbl' : b < wr.heap.size:=by omega
     have hS:=Jh (szL_drop (z38 n) most of j z hlt hq)
     have HC:=Jh (IH.out of[j] _ (wrap64 (most - z)) wr (hr.up (Below.refl _ _) hz))
     clear hr hbw
     go_wp2_with fail
     refine HC.out.mono ?_
     rintro e w3 ⟨rfl,hb4⟩
     have HB4:=Jh (HBW.out.trans (hb4.mono hz))
     have hbox3:=(hb4.cell (p:=⟨w.heap.size,2,none⟩) hsz).trans hbox
     have hsz3 : w.heap.size < w3.heap.size:=by have:=hb4.size; omega
     clear hb4
     go_wp2_with fail
     go_roundw
     case rel => exact ⟨j + 1,_,by omega,by go_num,rfl,HT.out.trans hS.out,HB4.out,hsz3,hbox3⟩
     case measure => simp [intOf]; omega
    ·have hS:=Jh (szL_stop (z38 n) most (of.drop j) z hq)
     clear hbw
     go_wp2_with fail
     all_goals go_ret
     all_goals exact ⟨z2l (by rw [HT.out,hS.out]),HBW.out⟩
   ·have hje : j = of.length:=by omega
    subst hje
    have hS:=Jh (szL_end (z38 n) most z of)
    clear hbw
    go_wp2_with fail
    all_goals go_ret
    all_goals exact ⟨z2l (by rw [HT.out,hS.out]),HBW.out⟩
theorem size30_any (m n : Nat) : ∀ (t : XT m n) (v : Value) (most : Int) (w : World),XRep w w.heap.size m n t v →
 Calls Tryz.prog 49 #[v,.int .i64 most] w fun e w' => e = .returned (.int .i64 (z3i n t most)) ∧ Below w.heap.size w w':=by
 induction n with
 | zero => intro t v most w h; exact h.elim
 | succ n ih =>
  intro t v most w h
  obtain ⟨k,is,of,lo,ls,hi,hs,op⟩:=t
  obtain ⟨a1,c1,a,c,rfl,hR1,hR⟩:=h
  dsimp only at hR hR1 ⊢
  have hm:=hR.1
  have hm1:=hR1.1
  have HR:=Jh hR
  have HR1:=Jh hR1
  have IH:=Jh ih
  have HE : Hid (szL (z38 m) most is 1 = szL (z38 m) most (is.drop 0) 1):=rfl
  have HE2 : Hid (z3i (n + 1) ((k,is,of,⟨lo,ls,hi,hs,op⟩) : XT m (n + 1)) most = szL (z3i n) most (of.drop 0) (szL (z38 m) most is 1)):=rfl
  have HZ : Hid (Below w.heap.size w (w.alloc (.cells #[.int .u8 k,.slice a1 is.length c1,.slice a of.length c,.int .i64 lo,.bool ls,.int .i64 hi,.bool hs,.bool op] 47))):=(Below.refl _ _).alloc (Nat.le_refl _) _
  clear hR hR1 ih
  go_enter Tryz.func49,Tryz.ntmps49
  go_wp2_with fail
  go_loopw [5,6] (fun q i wr => ∃ (j : Nat) (z : Int),j ≤ is.length ∧ i = .int .i64 j ∧ q = .int .i64 z ∧ Hid (szL (z38 m) most is 1 = szL (z38 m) most (is.drop j) z) ∧ Below w.heap.size w wr ∧ w.heap.size < wr.heap.size ∧ wr.cell? ⟨w.heap.size,1,none⟩ = some (.slice a1 is.length c1) ∧ wr.cell? ⟨w.heap.size,2,none⟩ = some (.slice a of.length c)) (fun _ i _ => is.length - (intOf i).toNat)
  case atStart => exact ⟨0,_,Nat.zero_le _,rfl,rfl,HE,HZ.out,by simp,by simp [World.cell?_alloc_at],by simp [World.cell?_alloc_at]⟩
  case round =>
   obtain ⟨j,z,hj,rfl,rfl,HT,hbw,hsz,hbox,hbox2⟩:=hrel
   have HBW:=Jh hbw
   have HSTOP : Hid (∀ N1 : Int,szL (z38 m) most is 1 = N1 → z3i (n + 1) ((k,is,of,⟨lo,ls,hi,hs,op⟩) : XT m (n + 1)) most = szL (z3i n) most (of.drop 0) N1):=fun N1 h => by rw [HE2.out,h]
   by_cases hgo : j < is.length ∧ z ≤ most
   ·obtain ⟨hlt,hq⟩:=hgo
    obtain ⟨b,off,k',s',sa,sl,sc,rfl,hbl,c0,c1,c2,hr⟩:=(FRow.up HR1.out hbw (Nat.le_refl _)).at j hlt
    have hz:=hbw.size
    have hbl' : b < wr.heap.size:=by omega
    have hS:=Jh (szL_drop (z38 m) most is j z hlt hq)
    have HC:=Jh (size49_any m is[j] _ (wrap64 (most - z)) wr (hr.up (Below.refl _ _) hz))
    clear hr hbw
    go_wp2_with fail
    refine HC.out.mono ?_
    rintro e w3 ⟨rfl,hb4⟩
    have HB4:=Jh (HBW.out.trans (hb4.mono hz))
    have hbox3:=(hb4.cell (p:=⟨w.heap.size,1,none⟩) hsz).trans hbox
    have hbox4:=(hb4.cell (p:=⟨w.heap.size,2,none⟩) hsz).trans hbox2
    have hsz3 : w.heap.size < w3.heap.size:=by have:=hb4.size; omega
    clear hb4
    go_wp2_with fail
    go_roundw
    case rel => exact ⟨j + 1,_,by omega,by go_num,rfl,HT.out.trans hS.out,HB4.out,hsz3,hbox3,hbox4⟩
    case measure => simp [intOf]; omega
   ·have hS : Hid (szL (z38 m) most (is.drop j) z = z):=by
     by_cases hlt : j < is.length
     ·exact szL_stop _ _ _ _ (fun hq => hgo ⟨hlt,hq⟩)
     ·obtain rfl : j = is.length:=by omega
      exact szL_end _ _ _ _
    have HE3:=Jh (HSTOP.out z (HT.out.trans hS.out))
    have hq : ¬ j < is.length ∨ (j < is.length ∧ ¬ z ≤ most):=by omega
    clear HE HE2 HSTOP HT hS hgo
    rcases hq with hq | ⟨hq,hq2⟩
    all_goals
     clear hbw
     go_wp2_with fail
     go_loopw [5,7] (fun q i wr => ∃ (j : Nat) (z : Int),j ≤ of.length ∧ i = .int .i64 j ∧ q = .int .i64 z ∧ Hid (z3i (n + 1) ((k,is,of,⟨lo,ls,hi,hs,op⟩) : XT m (n + 1)) most = szL (z3i n) most (of.drop j) z) ∧ Below w.heap.size w wr ∧ w.heap.size < wr.heap.size ∧ wr.cell? ⟨w.heap.size,2,none⟩ = some (.slice a of.length c)) (fun _ i _ => of.length - (intOf i).toNat)
     case atStart => exact ⟨0,_,Nat.zero_le _,rfl,rfl,HE3,HBW.out,hsz,hbox2⟩
     case round =>
      clear hq hj
      try clear hq2
      clear HBW hsz hbox hbox2 HE3
      obtain ⟨j,z,hj,rfl,rfl,HT,hbw,hsz,hbox⟩:=hrel
      have HBW:=Jh hbw
      by_cases hlt : j < of.length
      ·by_cases hq : z ≤ most
       ·obtain ⟨b,off,k',a1',l1',c1',a2',l2',c2',lo',ls',hi',hs',op',rfl,hbl,c0,d1,c2,c3,c4,c5,c6,c7,hr⟩:=(XRow.up HR.out hbw (Nat.le_refl _)).at j hlt
        have hz:=hbw.size
        have hbl' : b < wr.heap.size:=by omega
        have hS:=Jh (szL_drop (z3i n) most of j z hlt hq)
        have HC:=Jh (IH.out of[j] _ (wrap64 (most - z)) _ (hr.up (Below.refl _ _) hz))
        clear hr hbw
        go_wp2_with fail
        refine HC.out.mono ?_
        rintro e w3 ⟨rfl,hb4⟩
        have HB4:=Jh (HBW.out.trans (hb4.mono hz))
        have hbox3:=(hb4.cell (p:=⟨w.heap.size,2,none⟩) hsz).trans hbox
        have hsz3 : w.heap.size < w3.heap.size:=by have:=hb4.size; omega
        clear hb4
        go_wp2_with fail
        go_roundw
        case rel => exact ⟨j + 1,_,by omega,by go_num,rfl,HT.out.trans hS.out,HB4.out,hsz3,hbox3⟩
        case measure => simp [intOf]; omega
       ·have hS:=Jh (szL_stop (z3i n) most (of.drop j) z hq)
        clear hbw
        go_wp2_with fail
        all_goals go_ret
        all_goals exact ⟨z2l (by rw [HT.out,hS.out]),HBW.out⟩
      ·have hje : j = of.length:=by omega
       subst hje
       have hS:=Jh (szL_end (z3i n) most z of)
       clear hbw
       go_wp2_with fail
       all_goals go_ret
       all_goals exact ⟨z2l (by rw [HT.out,hS.out]),HBW.out⟩
theorem z3z (m n : Nat) (t : XT m n) (v : Value) (w : World) (h : XRep w w.heap.size m n t v) :
 Calls Tryz.prog 19 #[v] w fun e w' => e = .returned (.bool (decide (2000 < z3i n t 2000))) ∧ Below w.heap.size w w':=by
 obtain ⟨k,a1,l1,c1,a,l,c,lo,ls,hi,hs,op,rfl⟩:=h.shape
 have hb : Below w.heap.size w (w.alloc (.cells #[.int .u8 k,.slice a1 l1 c1,.slice a l c,.int .i64 lo,.bool ls,.int .i64 hi,.bool hs,.bool op] 47)):=(Below.refl _ _).alloc (Nat.le_refl _) _
 have HC:=Jh (size30_any m n t _ 2000 _ (h.up hb hb.size))
 have HB:=Jh hb
 clear h hb
 go_enter Tryz.func19,Tryz.ntmps19
 go_wp2_with fail
 refine HC.out.mono ?_
 rintro e w1 ⟨rfl,hb1⟩
 have HB1:=Jh (HB.out.trans (hb1.mono HB.out.size))
 clear hb1
 go_wp2_with fail
 all_goals go_ret
 all_goals exact ⟨rfl,HB1.out⟩
open Go.RowKit
def set4 (w : World) (b : Nat) (x0 x1 x2 x3 : Value) : World:=(((w.setCell ⟨b,0,none⟩ x0).setCell ⟨b,1,none⟩ x1).setCell ⟨b,2,none⟩ x2).setCell ⟨b,3,none⟩ x3
theorem set4_at {w : World} {b : Nat} {u0 u1 u2 u3 : Value} {t : TypeId} (h : w.heap[b]? = some (.cells #[u0,u1,u2,u3] t (0,0))) (x0 x1 x2 x3 : Value) : (set4 w b x0 x1 x2 x3).heap[b]? = some (.cells #[x0,x1,x2,x3] t (0,0)):=by
 simp [set4,World.setCell,Array.getElem?_modify,h]
theorem set4_below {B : Nat} {w w' : World} (h : Below B w w') {b : Nat} (hb : B ≤ b) (x0 x1 x2 x3 : Value) : Below B w (set4 w' b x0 x1 x2 x3) :=
 (((h.setCell (p:=⟨b,0,none⟩) hb x0).setCell (p:=⟨b,1,none⟩) hb x1).setCell (p:=⟨b,2,none⟩) hb x2).setCell (p:=⟨b,3,none⟩) hb x3
end Go.Proofs.YtockinpjfhhkoaaGreatDoor
