/- prop.Holds walked. -/
import Derived.Test.YtockinpjfhhkoaaGreatDoorZ15
import Derived.Test.YtockinpjfhhkoaaGreatDoorZ21
import Derived.Test.YtockinpjfhhkoaaGreatDoorZ02
import Derived.Deep.RegionHeld3
import Derived.Deep.RegionHeld
import Derived.Deep.Cut
import Derived.LoopTactic
import Derived.Test.YtockinpjfhhkoaaGreatDoorZ09
import Derived.Test.YtockinpjfhhkoaaGreatDoorZ06
import Derived.MapKept
import Derived.Carry
import Derived.Test.YtockinpjfhhkoaaGreatDoorZ05
set_option maxRecDepth 100000
set_option maxHeartbeats 16000000
open Go.Lib renaming hid → Jh
namespace Go.Proofs.YtockinpjfhhkoaaGreatDoor
open Go.RowKit
theorem namesR_len {l : List ByteArray} (h : z0r l = 0) : l.length ≤ 8:=by
 unfold z0r at h
 rcases Nat.lt_or_ge 8 l.length with h1 | h1
 ·simp [h1] at h
 ·exact h1
def z28 (names : List ByteArray) (n : Nat) (t : FT n) (on : Int) : Bool × Int :=
 if fmlR names n t ≠ 0 then (false,fmlR names n t) else if 0 < on / 2 ^ names.length then (false,2) else (z0b names n t on,0)
theorem holds22_any (names : List ByteArray) (nv : Value) (hs : ∀ s ∈ names,s.size ≤ 1048576) (n : Nat) (t : FT n) (v : Value) (on : Int) (w : World) (ho : 0 ≤ on) (ho2 : on ≤ 255) (hr : Rdy w) (hn : NRep w w.heap.size nv names) (hf : FRep w w.heap.size n t v) :
 Calls Tryz.prog 40 #[nv,v,.int .u8 on] w fun e w' => e = .returned (.tuple #[.bool (z28 names n t on).1,.int .i64 (z28 names n t on).2]) ∧ Below w.heap.size w w':=by
 obtain ⟨k,s,a,l,c,rfl⟩:=hf.shape
 obtain ⟨na,nc,rfl,_⟩:=id hn
 have hb : Below w.heap.size w (w.alloc (.cells #[.int .u8 k,.string s,.slice a l c] 25)):=(Below.refl _ _).alloc (Nat.le_refl _) _
 have HFM:=Jh (formula16_any names _ hs n t _ _ (hr.below hb) (hn.up hb hb.size) (hf.up hb hb.size))
 have HB:=Jh hb
 have HF:=Jh hf
 have HN:=Jh hn
 clear hr hs hb hf hn
 go_enter Tryz.func40,Tryz.ntmps40
 go_wp2_with fail
 refine HFM.out.mono ?_
 rintro e w1 ⟨rfl,hb1⟩
 obtain ⟨x0,x1,x2,hz⟩:=box_cells3 hb1
 have HB1:=Jh (HB.out.trans (hb1.mono HB.out.size))
 clear hb1
 by_cases h0 : fmlR names n t = 0
 ·obtain ⟨g1,g2,_,g4⟩:=fmlR_zero.1 h0
  have G2:=Jh g2
  have G4:=Jh g4
  have hnl:=namesR_len g1
  rw [h0]
  have H0:=Jh h0
  clear g1 g2 g4 h0
  by_cases hon : 0 < on / 2 ^ names.length
  ·have HR : Hid (z28 names n t on = (false,2)):=by rw [Hid,z28,H0.out,if_neg (by simp),if_pos hon]
   go_wp2_with fail
   all_goals go_ret2
   all_goals exact ⟨by rw [HR.out]; rfl,HB1.out⟩
  ·have HR : Hid (z28 names n t on = (z0b names n t on,0)):=by rw [Hid,z28,H0.out,if_neg (by simp),if_neg hon]
   have HMD:=made48_any names (.slice na names.length nc) hnl n t _ w1 (HN.out.up HB1.out HB1.out.size) (HF.out.up HB1.out HB1.out.size) G2.out G4.out
   have HM:=Jh HMD
   clear HMD
   go_wp2_with fail
   refine HM.out.mono ?_
   rintro e w2 ⟨⟨v',rfl,hv⟩,hb2⟩
   have HB2:=Jh (HB1.out.trans (hb2.mono HB1.out.size))
   obtain ⟨K,caps,rfl,hK,hC⟩:=hv w2 fun _ _ _ => rfl
   have HC:=Jh (hC on)
   unfold Ent at hK
   clear hb2 hv hC
   go_wp2_with fail
   refine HC.out.mono ?_
   rintro e w3 ⟨rfl,rfl⟩
   go_wp2_with fail
   all_goals go_ret2
   all_goals exact ⟨by rw [HR.out]; rfl,HB2.out⟩
 ·have HR : Hid (z28 names n t on = (false,fmlR names n t)):=by rw [Hid,z28,if_pos h0]
  have q : (fmlR names n t != 0) = true:=by simpa using h0
  clear h0
  go_wp2_with fail
  all_goals go_ret2
  all_goals exact ⟨by rw [HR.out]; rfl,HB1.out⟩
open Go.RowKit
def z1v (names : List ByteArray) {m : Nat} (f : FT m) (on : Int) : Bool:=(z28 names m f on).2 == 0 && (z28 names m f on).1
def SumOk (l : List (Int × Int)) : Prop:=∀ k,k ≤ l.length → 0 ≤ sumG 0 (l.take k) ∧ sumG 0 (l.take k) ≤ 1152921504606846976
theorem sum_succ (l : List (Int × Int)) (k : Nat) (h : k < l.length) : sumG 0 (l.take (k + 1)) = sumG 0 (l.take k) + (l[k]).1:=by
 unfold sumG
 rw [List.take_succ_eq_append_getElem h,List.foldl_append]; rfl
theorem seg_round {at_ x at2 : Int} {j n : Nat} (h0 : 0 ≤ at_ ∧ at_ ≤ 1152921504606846976) (h : at_ + x = at2) (h2 : 0 ≤ at2 ∧ at2 ≤ 1152921504606846976) (hj : j < n) (hn : n ≤ 9223372036854775807) :
 IntKind.i64.wrap (at_ + x) = at2 ∧ wrap64 (at_ + x) = at2 ∧ IntKind.i64.wrap ((j : Int) + 1) = (j : Int) + 1 ∧ wrap64 ((j : Int) + 1) = (j : Int) + 1 ∧ in64 at_ ∧ in64 at2 ∧ (0 : Int) ≤ (j : Int) ∧ (j : Int) < (n : Int):=by
 refine ⟨?_,?_,IntWalk.i64_in _ (by omega),IntWalk.wrap64_in _ (by omega),⟨by omega,by omega⟩,⟨by omega,by omega⟩,by omega,by omega⟩
 ·rw [h]; exact IntWalk.i64_in _ (by omega)
 ·rw [h]; exact IntWalk.wrap64_in _ (by omega)
theorem meas {j n : Nat} (h : j < n) : n - (intOf (.int .i64 ((j : Int) + 1))).toNat < n - (intOf (.int .i64 (j : Int))).toNat:=by
 show n - ((j : Int) + 1).toNat < n - (j : Int).toNat
 omega
theorem in64_of {x : Int} (h : 0 ≤ x ∧ x ≤ 1152921504606846976) : in64 x:=⟨by omega,by omega⟩
theorem z6r (hold : Int → Bool) (t u : Int × Int) (l : List (Int × Int)) (k : Nat) (h : k < l.length) (at_ : Int) :
 z1l hold t u at_ (l.drop k) = if z0f (z1i at_) u && z0f t (z1i (at_ + (l[k]).1)) && !hold (l[k]).2 then none else z1l hold t u (at_ + (l[k]).1) (l.drop (k + 1)):=by
 rw [List.drop_eq_getElem_cons h,z1l]
theorem toF_inj : ∀ (n : Nat) (t t' : FT n),toF n t = toF n t' → t = t'
 | 0,t,_,_ => nomatch t
 | n + 1,(k,s,of),(k',s',of'),h => by
  have h' : F.mk k s (of.map (toF n)) = F.mk k' s' (of'.map (toF n)):=h
  injection h' with h1 h2 h3
  have : ∀ (l l' : List (FT n)),l.map (toF n) = l'.map (toF n) → l = l':=by
   intro l
   induction l with
   | nil => intro l' h; cases l' with
    | nil => rfl
    | cons _ _ => simp at h
   | cons x r ih => intro l' h; cases l' with
    | nil => simp at h
    | cons y r' =>
     simp only [List.map_cons,List.cons.injEq] at h
     rw [toF_inj n x y h.1,ih r' h.2]
  rw [h1,h2,this of of' h3]
open Classical in
noncomputable def z09 (names : List ByteArray) (m : Nat) (f : F) (on : Int) : Bool:=if h : ∃ t : FT m,toF m t = f then z1v names h.choose on else false
theorem holdE_at (names : List ByteArray) {m : Nat} (t : FT m) : z09 names m (toF m t) = z1v names t:=by
 funext on
 unfold z09
 have h : ∃ t' : FT m,toF m t' = toF m t:=⟨t,rfl⟩
 rw [dif_pos h,toF_inj m _ _ h.choose_spec]
def okT : (n : Nat) → PT n → Prop
 | 0,_ => True
 | n + 1,t => (∀ s ∈ t.2.2.1,in64 s.1) ∧ t.2.2.1.length ≤ 100000 ∧ ∀ y ∈ t.2.2.2,okT n y
def EnvC (names : List ByteArray) (nv : Value) (la : Option Addr) (lc : Nat) (l : List (Int × Int)) (W : World) : Prop:=Rdy W ∧ NRep W W.heap.size nv names ∧ Segs W W.heap.size (.slice la l.length lc) l
theorem EnvC.up {names : List ByteArray} {nv : Value} {la : Option Addr} {lc : Nat} {l : List (Int × Int)} {w W : World} (h : EnvC names nv la lc l w) (hb : Below w.heap.size w W) : EnvC names nv la lc l W :=
 ⟨h.1.below hb,h.2.1.up hb hb.size,Segs.mono hb.size (Segs.below hb h.2.2)⟩
def ShowsC (names : List ByteArray) (m : Nat) (nv : Value) (la : Option Addr) (lc : Nat) (l : List (Int × Int)) (d n : Nat) : Prop :=
 ∀ (x : XT m d) (xv : Value) (a p b q : Int) (t : PT n) (wv : Value) (W : World),EnvC names nv la lc l W → XRep W W.heap.size m d x xv → allX z02 d x = true → allX z11 d x = true →
  PRep W W.heap.size n t wv → okT n t → mayP (a,p) = true → mayP (b,q) = true → in64 a → in64 b →
  Calls Tryz.prog 53 #[.agg #[nv,.slice la l.length lc],xv,.agg #[.int .i64 a,.int .i64 p],.agg #[.int .i64 b,.int .i64 q],wv] W fun e w' =>
   e = .returned (.bool (z08 (z09 names m) l n (toX d x) (a,p) (b,q) t)) ∧ Below W.heap.size W w'
def PRow (w : World) (B n : Nat) (a : Option Addr) (of : List (PT n)) : Prop:=of = [] ∨ ∃ b off,a = some ⟨b,off,none⟩ ∧ b < B ∧
 ∀ i (h : i < of.length),∃ v0 v1 v2 v3,w.cell? ⟨b,off + i * 4,none⟩ = some v0 ∧ w.cell? ⟨b,off + i * 4 + 1,none⟩ = some v1 ∧
  w.cell? ⟨b,off + i * 4 + 2,none⟩ = some v2 ∧ w.cell? ⟨b,off + i * 4 + 3,none⟩ = some v3 ∧ PRep w B n of[i] (.agg #[v0,v1,v2,v3])
theorem PRow.at {w : World} {B n : Nat} {a : Option Addr} {of : List (PT n)} (h : PRow w B n a of) (i : Nat) (hi : i < of.length) :
 ∃ b off k s b1 n1 d1 b2 n2 d2,a = some ⟨b,off,none⟩ ∧ b < B ∧ w.cell? ⟨b,off + i * 4,none⟩ = some (.int .u8 k) ∧ w.cell? ⟨b,off + i * 4 + 1,none⟩ = some (.int .u8 s) ∧
  w.cell? ⟨b,off + i * 4 + 2,none⟩ = some (.slice b1 n1 d1) ∧ w.cell? ⟨b,off + i * 4 + 3,none⟩ = some (.slice b2 n2 d2) ∧ PRep w B n of[i] (.agg #[.int .u8 k,.int .u8 s,.slice b1 n1 d1,.slice b2 n2 d2]):=by
 rcases h with h | ⟨b,off,ha,hb,hc⟩
 ·rw [h] at hi; exact absurd hi (by simp)
 ·obtain ⟨v0,v1,v2,v3,e0,e1,e2,e3,hp⟩:=hc i hi
  obtain ⟨k,s,b1,n1,d1,b2,n2,d2,hv⟩:=hp.shape
  have hv' : v0 = .int .u8 k ∧ v1 = .int .u8 s ∧ v2 = .slice b1 n1 d1 ∧ v3 = .slice b2 n2 d2:=by simpa using hv
  obtain ⟨rfl,rfl,rfl,rfl⟩:=hv'
  exact ⟨b,off,k,s,b1,n1,d1,b2,n2,d2,ha,hb,e0,e1,e2,e3,hp⟩
theorem PRep.up {w w' : World} {B B' : Nat} (hb : Below B w w') (hB : B ≤ B') : ∀ {n : Nat} {t : PT n} {v : Value},PRep w B n t v → PRep w' B' n t v
 | 0,_,_,h => h.elim
 | n + 1,t,v,h => by
  obtain ⟨va,a,cap,hv,hm,⟨ra,rc,rv,rm,hr⟩,h⟩:=h
  refine ⟨va,a,cap,hv,hm,⟨ra,rc,rv,rm,?_⟩,?_⟩
  ·rcases hr with hr | ⟨b,off,ha,hlt,hc⟩
   ·exact .inl hr
   ·exact .inr ⟨b,off,ha,Nat.lt_of_lt_of_le hlt hB,fun i hi => ⟨(hb.cell (p:=⟨b,_,none⟩) hlt).trans (hc i hi).1,(hb.cell (p:=⟨b,_,none⟩) hlt).trans (hc i hi).2⟩⟩
  ·rcases h with h | ⟨b,off,ha,hlt,hc⟩
   ·exact .inl h
   ·refine .inr ⟨b,off,ha,Nat.lt_of_lt_of_le hlt hB,fun i hi => ?_⟩
    obtain ⟨v0,v1,v2,v3,c0,c1,c2,c3,hp⟩:=hc i hi
    exact ⟨v0,v1,v2,v3,(hb.cell (p:=⟨b,_,none⟩) hlt).trans c0,(hb.cell (p:=⟨b,_,none⟩) hlt).trans c1,(hb.cell (p:=⟨b,_,none⟩) hlt).trans c2,(hb.cell (p:=⟨b,_,none⟩) hlt).trans c3,PRep.up hb hB hp⟩
theorem PRow.up {w w' : World} {B B' n : Nat} {a : Option Addr} {of : List (PT n)} (h : PRow w B n a of) (hb : Below B w w') (hB : B ≤ B') : PRow w' B' n a of:=by
 rcases h with h | ⟨b,off,ha,hlt,hc⟩
 ·exact .inl h
 ·refine .inr ⟨b,off,ha,Nat.lt_of_lt_of_le hlt hB,fun i hi => ?_⟩
  obtain ⟨v0,v1,v2,v3,c0,c1,c2,c3,hp⟩:=hc i hi
  exact ⟨v0,v1,v2,v3,(hb.cell (p:=⟨b,_,none⟩) hlt).trans c0,(hb.cell (p:=⟨b,_,none⟩) hlt).trans c1,(hb.cell (p:=⟨b,_,none⟩) hlt).trans c2,(hb.cell (p:=⟨b,_,none⟩) hlt).trans c3,PRep.up hb hB hp⟩
open Go.RowKit
theorem upd163 {w : World} {r : Nat} {es : Array MapEntry} {clock : Nat} (k : Int) (val : Value) (hb : w.heap[r]? = some (.map es clock)) (hn : Instr.findNow (.int .u8) (.int .u8 k) es.toList 0 = some none) :
 ∃ w',(Instr.mapUpdate 163 (.map (some r)) (.int .u8 k) val).run Tryz.prog w = .ok () w' ∧ w'.heap[r]? = some (.map (es.push { key:=.int .u8 k,val:=val,born:=clock }) (clock + 1)) ∧ Bt r w w':=by
 refine ⟨{ w with heap:=w.heap.setIfInBounds r (.map (es.push { key:=.int .u8 k,val:=val,born:=clock }) (clock + 1)) },?_,?_,?_⟩
 ·have hc:=MapKept.run_checkKey (P:=Tryz.prog) (w:=w) (k:=.int .u8 k) Tryz.underlying5 (by simp [MapKept.IsKey]) false 9999
  simp [Instr.mapUpdate,run_underlying Tryz.underlying163,MapKept.run_getObj_map hb,hc,MapKept.run_findKey Tryz.underlying5 hn,MapKept.run_setObj_map _ hb,Result.andThen]
 ·exact (MapKept.heap_set hb).1
 ·exact ⟨rfl,rfl,rfl,by simp,fun j _ hj => (MapKept.heap_set hb).2 j hj⟩
def KnownAt (w : World) (r : Nat) : Prop:=w.heap[r]? = some (.map #[{ key:=.int .u8 1,val:=.func (.func 171) #[] #[],born:=0 },{ key:=.int .u8 2,val:=.func (.func 172) #[] #[],born:=1 },{ key:=.int .u8 3,val:=.func (.func 173) #[] #[],born:=2 },{ key:=.int .u8 4,val:=.func (.func 174) #[] #[],born:=3 },{ key:=.int .u8 5,val:=.func (.func 175) #[] #[],born:=4 },{ key:=.int .u8 6,val:=.func (.func 176) #[] #[],born:=5 }] 6)
theorem z5a {w : World} {r : Nat} (h : KnownAt w r) (k : Int) (v : Value) (i : Nat) (hn : Instr.findNow (.int .u8) (.int .u8 k) [{ key:=.int .u8 1,val:=.func (.func 171) #[] #[],born:=0 },{ key:=.int .u8 2,val:=.func (.func 172) #[] #[],born:=1 },{ key:=.int .u8 3,val:=.func (.func 173) #[] #[],born:=2 },{ key:=.int .u8 4,val:=.func (.func 174) #[] #[],born:=3 },{ key:=.int .u8 5,val:=.func (.func 175) #[] #[],born:=4 },{ key:=.int .u8 6,val:=.func (.func 176) #[] #[],born:=5 }] 0 = some (some (i,v))) :
 (Instr.lookup 163 (.map (some r)) (.int .u8 k) false).run Tryz.prog w = .ok v w:=by
 have hc:=MapKept.run_checkKey (P:=Tryz.prog) (w:=w) (k:=.int .u8 k) Tryz.underlying5 (by simp [MapKept.IsKey]) false 9999
 simp [Instr.lookup,run_underlying Tryz.underlying163,MapKept.run_getObj_map h,hc,MapKept.run_findKey Tryz.underlying5 hn,Result.andThen]
theorem z1j (w : World) : Calls Tryz.prog 102 #[] w fun e w' => (e = .returned (.map (some w.heap.size)) ∧ KnownAt w' w.heap.size) ∧ Below w.heap.size w w':=by
 obtain ⟨W1,hW1⟩ : ∃ W1,W1 = w.alloc (.map #[] 0):=⟨_,rfl⟩
 have h1 : W1.heap[w.heap.size]? = some (.map #[] 0):=by rw [hW1]; exact z03 rfl
 have e0 : (Instr.makeMap 163 none).run Tryz.prog w = .ok (.map (some w.heap.size)) W1:=by rw [hW1]; rfl
 have b1 : Below w.heap.size w W1:=by rw [hW1]; exact z0c _ _
 obtain ⟨W2,e1,h2,c1⟩:=upd163 1 (.func (.func 171) #[] #[]) h1 rfl
 obtain ⟨W3,e2,h3,c2⟩:=upd163 2 (.func (.func 172) #[] #[]) h2 rfl
 obtain ⟨W4,e3,h4,c3⟩:=upd163 3 (.func (.func 173) #[] #[]) h3 rfl
 obtain ⟨W5,e4,h5,c4⟩:=upd163 4 (.func (.func 174) #[] #[]) h4 rfl
 obtain ⟨W6,e5,h6,c5⟩:=upd163 5 (.func (.func 175) #[] #[]) h5 rfl
 obtain ⟨W7,e6,h7,c6⟩:=upd163 6 (.func (.func 176) #[] #[]) h6 rfl
 have HK : Hid (KnownAt W7 w.heap.size):=h7
 have HB : Hid (Below w.heap.size w W7):=b1.trans ((c1.trans (c2.trans (c3.trans (c4.trans (c5.trans c6))))).below (Nat.le_refl _) b1.size)
 clear hW1 h1 b1 h2 h3 h4 h5 h6 h7 c1 c2 c3 c4 c5 c6
 go_enter Tryz.func102,Tryz.ntmps102
 go_wp2_with fail
 all_goals go_ret
 all_goals exact ⟨⟨rfl,HK.out⟩,HB.out⟩
end Go.Proofs.YtockinpjfhhkoaaGreatDoor
