/- signal.Long and signal.On. -/
import Derived.Test.YtockinpjfhhkoaaGreatDoorZ16
import Derived.Deep.QuietTactic
import Derived.BigQuiet
import Derived.StillTailTactics
import Derived.Deep.RegionHeld3
import Derived.Deep.DrawnRows
import Derived.Maps.AppendAt
import Derived.WalkSmall
set_option maxRecDepth 100000
set_option maxHeartbeats 16000000
open Go.Lib renaming hid → Jh
namespace Go.Proofs.YtockinpjfhhkoaaGreatDoor
open Go.RowKit Go.Shelf
attribute [local go_sem] Oper.semAt_some
theorem z11 {fn : Func} {q u : Tmp} {ty : TypeId} (h : fn.results = #[.cell q ty,.tmp u]) {tmps : Array Value} {P : Program} {w : World} {a : Addr} {v x : Value} (hp : tmps.getD q undef = .pointer (some a)) (hu : tmps.getD u undef = x) (hagg : (isAgg ty).run P w = .ok false w)
 (hc : w.cell? a = some v) : (results fn tmps).run P w = .ok (.tuple #[v,x]) w:=by
 have hp' : tmps[q]?.getD undef = .pointer (some a):=by simpa using hp
 have hu' : tmps[u]?.getD undef = x:=by simpa using hu
 simp only [results,h]
 simp [Sem.run_bind,Result.andThen,hp',hu',asAddr,loadVar,hagg,hc,go_sem]
def endOf (pre : List (Int × Int × Int)) : Int:=(pre.getLast?.map fun x => wrap64 (x.1 + x.2.1)).getD 0
theorem endOf_snoc (pre : List (Int × Int × Int)) (x : Int × Int × Int) : endOf (pre ++ [x]) = wrap64 (x.1 + x.2.1):=by simp [endOf]
theorem endOf_all (l : List (Int × Int)) (k : Nat) : endOf (z1a l k) = atOf l k:=by
 cases k with
 | zero => rfl
 | succ k => rw [z4c,endOf_snoc]; rfl
theorem long_ok (p : Int) (v : Value) (l : List (Int × Int)) (w : World) (hs : Segs w w.heap.size v l) (hck : z0k p l = 0) :
 Calls Tryz.prog 35 #[.int .i64 p,v] w fun e W' => e = .returned (.tuple #[.int .i64 (atOf l l.length),.int .i64 0]) ∧ Below w.heap.size w W':=by
 have h25 : Fence.wide.fn 51:=trivial
 have h34 : Fence.wide.fn 82:=trivial
 refine (callsIn_wide (n:=3)).1 ?_
 obtain ⟨W0,hW0⟩ : ∃ W0 : World,w.alloc (.cells #[.int .i64 0] 3) = W0:=⟨_,rfl⟩
 have b0 : Below w.heap.size w W0:=by rw [← hW0]; exact (Below.refl _ _).alloc (Nat.le_refl _) _
 have hz0 : W0.heap.size = w.heap.size + 1:=by rw [← hW0]; simp
 have hS0 : Hid (Segs W0 W0.heap.size v l):=(hs.below b0).mono b0.size
 have hbe : Hid (Boxed W0 w.heap.size 3 (.int .i64 0)):=by rw [← hW0]; exact Boxed.new w 3 (.int .i64 0)
 obtain ⟨a,cap,rfl,hm,h,hr⟩:=hs
 have HH:=Jh h
 have HR:=Jh hr
 have HC:=Jh hck
 clear h hr hck
 refine callsIn_of_wp_marks Tryz.func35 rfl trivial ?_ rfl
 simp only [Tryz.ntmps35,List.size_toArray,List.length_cons,List.length_nil,Nat.reduceAdd,Nat.reduceSub,Array.replicate_succ,Array.replicate_zero,List.push_toArray,List.append_toArray,List.nil_append,List.cons_append]
 gi_wp2_with fail
 refine (callsIn_wide.2 (z82 p _ l W0 hS0.out)).mono ?_
 rintro e w1 ⟨rfl,hb1⟩
 rw [HC.out]
 have hbe1 : Boxed w1 w.heap.size 3 (.int .i64 0):=(hb1.block _ (by omega)).trans hbe.out
 clear hW0
 gi_wp2_with fail
 refine (zaw Fence.wide 2 trivial rfl _ _ _ _).mono ?_
 rintro e w2 ⟨rfl,rfl⟩
 gi_wp2_with fail
 obtain ⟨X,hX⟩ : ∃ X : World,w1.alloc (.cells #[.slice a l.length cap] 48) = X:=⟨_,rfl⟩
 have hz1 : W0.heap.size ≤ w1.heap.size:=hb1.size
 have zX : X.heap.size = w1.heap.size + 1:=by rw [← hX]; simp
 have bX : Below w.heap.size w X:=by rw [← hX]; exact (b0.trans (hb1.mono (by omega))).alloc (by omega) _
 have beX : Boxed X w.heap.size 3 (.int .i64 0):=by rw [← hX]; exact hbe1.alloc _
 have bsX : X.cell? ⟨w1.heap.size,0,none⟩ = some (.slice a l.length cap):=by rw [← hX]; simp [World.cell?_alloc_at]
 have SX : Segs X w.heap.size (.slice a l.length cap) l:=⟨a,cap,rfl,hm,by
  rcases HH.out with h | ⟨b,off,ha,hlt,hc⟩
  ·exact .inl h
  ·exact .inr ⟨b,off,ha,hlt,hc.below bX hlt⟩,HR.out⟩
 rw [hX]
 have HX:=Jh hX
 clear hX
 refine wpIn_rangeFunc_ownH rfl (by omega) (gf:=150) (lb:=#[.pointer (some ⟨w1.heap.size,0,none⟩)]) rfl trivial (enters_of Tryz.func150 (by kernel_rfl) rfl)
  (z9l Fence.wide 2 trivial rfl (by omega) w1.heap.size w.heap.size X.heap.size _ l X (by omega) (by omega) (Nat.le_refl _) bsX SX)
  kpD_t (kpD_b (by omega)) (Below.refl _ _) (fun _ => rfl)
  (fun pre W => Boxed W w.heap.size 3 (.int .i64 (endOf pre)) ∧ Below w.heap.size w W ∧ X.heap.size ≤ W.heap.size)
  (fun _ _ _ => False)
  (OwnFrom.and (Own.from (boxed_own _ _ _) _) (OwnFrom.and (ownFrom_below (Nat.le_refl _) (by omega)) (z5k _ _)))
  (fun _ _ _ _ _ hs _ _ => hs)
  ⟨beX,bX,Nat.le_refl _⟩
  (fun x a' W => ∃ Bx,X.heap.size ≤ Bx ∧ Seg1 W Bx x.2.1 x.2.2 ∧ a' = { tmps:=#[Value.int .i64 p,Value.slice a l.length cap,undef,undef,Value.pointer (some ⟨w.heap.size,0,none⟩),Value.int .i64 0,Value.int .i64 x.1,Value.pointer (some ⟨Bx,0,none⟩),Value.int .i64 p,Value.slice a l.length cap,Value.int .i64 0,Value.int .i64 0,Value.bool false,Value.slice a l.length cap,Value.func (Fn.func 150) #[] #[Value.pointer (some ⟨w1.heap.size,0,none⟩)],Value.int .i64 x.1,Value.agg #[Value.int .i64 x.2.1,Value.int .u8 x.2.2],undef,undef,undef,undef],defers:=[] })
  ?hAx ?assign ?body ?done ?stop
 case hAx =>
  intro x a' _ A B row ⟨Bx,hBx,hs,ha⟩ hg hr
  exact ⟨Bx,hBx,Seg1.own X.heap.size () A B row hs hg hr,ha⟩
 case assign =>
  rintro l' pre x W K ⟨hi1,hi3,hi4⟩ hK
  simp only [z4j]
  gi_wp2
  have hzW:=hi3.size
  exact hK _ _ ((KeepsOthers.alloc _ _).from _) (kpD_alloc W _ hzW) ⟨hi1.alloc _,hi3.alloc hzW _,by simp; omega⟩ ⟨W.heap.size,hi4,World.alloc_heap_new W _,rfl⟩
 case body =>
  rintro l' pre x a' W hl ⟨r,hr⟩ ⟨hbx,hB,hX4⟩ ⟨Bx,hBx,bx,rfl⟩ hlt
  have g0:=bx.c0
  have e1:=hbx.cell
  have e2:=hbx.frozen
  gi_wp2
  exact ⟨(KeepsOthers.setCell _ _ _).from _,kpD_setCell W _ _ (Nat.le_refl _) (by show w.heap.size < X.heap.size; omega),by rw [endOf_snoc]; exact hbx.set _,hB.setCell (p:=⟨w.heap.size,0,none⟩) (Nat.le_refl _) _,by rw [World.size_setCell]; exact hX4⟩
 case done =>
  rintro D' xs W hD' rfl ⟨hbx,hB,_⟩ hK
  gi_wp2
  refine ⟨by simp,.inl ⟨_,_,rfl,run_takeDeferred hK,?_⟩⟩
  refine ⟨_,z11 rfl rfl rfl (Tryz.isAgg3 _) (z27 hbx hK rfl _).cell,?_,?_⟩
  ·rw [endOf_all]; rfl
  ·exact hB.trans (belowK_b (w:=w) (Nat.le_refl _) _ D' _ _ (by omega) hK rfl rfl)
 case stop =>
  rintro D' c pre W hD' _ h hK
  exact h.elim
theorem long_err (p : Int) (v : Value) (l : List (Int × Int)) (w : World) (hs : Segs w w.heap.size v l) (hck : z0k p l ≠ 0) :
 Calls Tryz.prog 35 #[.int .i64 p,v] w fun e W' => e = .returned (.tuple #[.int .i64 0,.int .i64 (z0k p l)]) ∧ Below w.heap.size w W':=by
 obtain ⟨W0,hW0⟩ : ∃ W0 : World,w.alloc (.cells #[.int .i64 0] 3) = W0:=⟨_,rfl⟩
 have b0 : Below w.heap.size w W0:=by rw [← hW0]; exact (Below.refl _ _).alloc (Nat.le_refl _) _
 have hz0 : W0.heap.size = w.heap.size + 1:=by rw [← hW0]; simp
 have hS0 : Hid (Segs W0 W0.heap.size v l):=(hs.below b0).mono b0.size
 have hbe : Hid (Boxed W0 w.heap.size 3 (.int .i64 0)):=by rw [← hW0]; exact Boxed.new w 3 (.int .i64 0)
 have hne : (z0k p l != 0) = true:=by simpa using hck
 obtain ⟨a,cap,rfl,hm,h,hr⟩:=hs
 clear h hr hck
 go_enter Tryz.func35,Tryz.ntmps35
 go_wp2_with fail
 refine (z82 p _ l W0 hS0.out).mono ?_
 rintro e w1 ⟨rfl,hb1⟩
 have hbe1 : Boxed w1 w.heap.size 3 (.int .i64 0):=(hb1.block _ (by omega)).trans hbe.out
 clear hW0
 go_wp2_with fail
 exact bodyPost_ret (v:=.tuple #[.int .i64 0,.int .i64 (z0k p l)]) (z11 rfl rfl rfl (Tryz.isAgg3 _) hbe1.cell) rfl ⟨rfl,b0.trans (hb1.mono (by omega))⟩
open Go.RowKit Go.Shelf
attribute [local go_sem ↓] Go.wp_at_zero Go.wp_at_succ
def z3w (out : List (Int × Int)) (s : Int × Int) : List (Int × Int) :=
 match out.getLast? with
 | some t => if t.2 = s.2 then out.dropLast ++ [(wrap64 (t.1 + s.1),t.2)] else out ++ [s]
 | none => [s]
def mTo (l : List (Int × Int)) (k : Nat) : List (Int × Int):=(l.take k).foldl z3w []
def z2n (l : List (Int × Int)) : List (Int × Int):=l.foldl z3w []
theorem mTo_succ (l : List (Int × Int)) (k : Nat) (h : k < l.length) : mTo l (k + 1) = z3w (mTo l k) l[k]:=by
 unfold mTo
 rw [List.take_succ_eq_append_getElem h,List.foldl_append]
 rfl
theorem mTo_all (l : List (Int × Int)) : mTo l l.length = z2n l:=by rw [mTo,List.take_length]; rfl
theorem z3v (s : Int × Int) : z3w [] s = [s]:=rfl
theorem z1x (pre : List (Int × Int)) (t s : Int × Int) (h : t.2 = s.2) : z3w (pre ++ [t]) s = pre ++ [(wrap64 (t.1 + s.1),t.2)]:=by simp [z3w,h]
theorem z2m (pre : List (Int × Int)) (t s : Int × Int) (h : t.2 ≠ s.2) : z3w (pre ++ [t]) s = pre ++ [t] ++ [s]:=by simp [z3w,h]
theorem mstep_length (out : List (Int × Int)) (s : Int × Int) : (z3w out s).length ≤ out.length + 1:=by
 rcases List.eq_nil_or_concat out with rfl | ⟨pre,t,rfl⟩
 ·simp [z3v]
 ·rw [List.concat_eq_append]
  by_cases h : t.2 = s.2
  ·rw [z1x _ _ _ h]; simp
  ·rw [z2m _ _ _ h]; simp
theorem z8x (l : List (Int × Int)) : ∀ k,k ≤ l.length → (mTo l k).length ≤ k
 | 0,_ => by simp [mTo]
 | k + 1,h => by
  rw [mTo_succ l k (by omega)]
  have:=mstep_length (mTo l k) l[k]
  have:=z8x l k (by omega)
  omega
def z3k (l : List (Int × Int)) : List Value:=l.flatMap fun s => [.int .i64 s.1,.int .u8 s.2]
theorem z1m (a b : List (Int × Int)) : z3k (a ++ b) = z3k a ++ z3k b:=by simp [z3k]
theorem z7u (s : Int × Int) : z3k [s] = [.int .i64 s.1,.int .u8 s.2]:=rfl
theorem z1d : ∀ l : List (Int × Int),(z3k l).length = l.length * 2
 | [] => rfl
 | s :: l => by
  have:=z1d l
  show (z3k ([s] ++ l)).length = _
  rw [z1m,List.length_append,this]
  simp [z7u]; omega
theorem flatS_set (pre : List (Int × Int)) (t : Int × Int) (x : Int) : (z3k (pre ++ [t])).set (pre.length * 2) (.int .i64 x) = z3k (pre ++ [(x,t.2)]):=by
 rw [z1m,z1m,List.set_append_right _ _ (by rw [z1d]; exact Nat.le_refl _),z1d]
 simp [z7u]
theorem flatS_get0 (pre : List (Int × Int)) (t : Int × Int) : (z3k (pre ++ [t]))[pre.length * 2]? = some (.int .i64 t.1):=by
 rw [z1m,List.getElem?_append_right (by rw [z1d]; exact Nat.le_refl _),z1d]
 simp [z7u]
theorem flatS_get1 (pre : List (Int × Int)) (t : Int × Int) : (z3k (pre ++ [t]))[pre.length * 2 + 1]? = some (.int .u8 t.2):=by
 rw [z1m,List.getElem?_append_right (by rw [z1d]; omega),z1d]
 simp [z7u]
def OwnS (w : World) (B : Nat) (v : Value) (l : List (Int × Int)) : Prop:=w.ownsRow B 29 2 v l.length (z3k l)
theorem OwnS.last {w : World} {B : Nat} {v : Value} {pre : List (Int × Int)} {t : Int × Int} (h : OwnS w B v (pre ++ [t])) :
 ∃ g cap,v = .slice (some ⟨g,0,none⟩) (pre.length + 1) cap ∧ B ≤ g ∧ g < w.heap.size ∧ w.cell? ⟨g,pre.length * 2,none⟩ = some (.int .i64 t.1) ∧ w.cell? ⟨g,pre.length * 2 + 1,none⟩ = some (.int .u8 t.2) ∧
  w.frozen? ⟨g,pre.length * 2,none⟩ = false ∧ ∀ x,OwnS (w.setCell ⟨g,pre.length * 2,none⟩ (.int .i64 x)) B v (pre ++ [(x,t.2)]):=by
 have h':=h
 obtain ⟨_,hh⟩:=h
 rcases hh with ⟨_,h0⟩ | ⟨g,cap,cur,hv,hg,hb,hn,hm,hs,ht⟩
 ·simp at h0
 ·subst hv
  have hlen : (pre ++ [t]).length = pre.length + 1:=by simp
  unfold OwnS at h'
  rw [hlen] at h'
  refine ⟨g,cap,by rw [hlen],hg,(Array.getElem?_eq_some_iff.1 hb).1,?_,?_,h'.frozenAt _,fun x => ?_⟩
  ·rw [h'.cellAt _ (by omega),flatS_get0]
  ·rw [h'.cellAt _ (by omega),flatS_get1]
  ·have:=h'.stored (pre.length * 2) (.int .i64 x)
   rw [flatS_set] at this
   unfold OwnS
   rw [hlen]
   simpa using this.1
theorem OwnS.shape {w : World} {B : Nat} {v : Value} {l : List (Int × Int)} (h : OwnS w B v l) : ∃ a c,v = .slice a l.length c:=by
 rcases h.2 with ⟨rfl,h0⟩ | ⟨g,cap,cur,hv,_⟩
 ·exact ⟨none,0,by rw [h0]⟩
 ·exact ⟨_,_,hv⟩
theorem OwnS.below {w w' : World} {B : Nat} {v : Value} {l : List (Int × Int)} (h : OwnS w B v l) (hb : Below w.heap.size w w') : OwnS w' B v l :=
 World.ownsRow.kept h (row:=none) ⟨hb.os,hb.tape,hb.output,hb.size,fun j hj _ => hb.block j hj⟩ (by cases hv : v.ownBlock <;> simp)
theorem OwnS.set {w : World} {B g cp : Nat} {pre : List (Int × Int)} {t : Int × Int} (h : OwnS w B (.slice (some ⟨g,0,none⟩) (pre.length + 1) cp) (pre ++ [t])) (x : Int) :
 OwnS (w.setCell ⟨g,pre.length * 2,none⟩ (.int .i64 x)) B (.slice (some ⟨g,0,none⟩) (pre.length + 1) cp) (pre ++ [(x,t.2)]):=by
 obtain ⟨g',cap',hv,_,_,_,_,_,hx⟩:=h.last
 injection hv with h1 h2 h3
 injection h1 with h1
 injection h1 with h1
 subst h1
 exact hx x
theorem z2a (w : World) (x y : Value) (t : TypeId) : ∀ j u,[x,y][j]? = some u → (w.alloc (.cells #[x,y] t)).cell? ((⟨w.heap.size,0,none⟩ : Addr).add j) = some u:=by
 intro j u hj
 match j,hj with
 | 0,hj => simp at hj; subst hj; simp [Addr.add]
 | 1,hj => simp at hj; subst hj; simp [Addr.add]
theorem Tryz.info29 : (Tryz.prog.info? 29).map (fun i => (i.zero,i.size,i.bytes)) = some (some (.agg #[.int .i64 0,.int .u8 0]),2,16):=by kernel_rfl
theorem merged_any (v : Value) (l : List (Int × Int)) (w : World) (hs : Segs w w.heap.size v l) (hlen : l.length ≤ 10000) :
 Calls Tryz.prog 84 #[v] w fun e w' => (∃ v',e = .returned v' ∧ OwnS w' w.heap.size v' (z2n l)) ∧ Below w.heap.size w w':=by
 obtain ⟨i0,hi,hz0,hz1,hz2⟩:=info_parts Tryz.info29
 obtain ⟨a,cap,rfl,hm,h,hr⟩:=hs
 clear hr
 go_enter Tryz.func84,Tryz.ntmps84
 go_wp2_with fail
 go_loopw [2,8] (fun u i wr => ∃ j : Nat,j ≤ l.length ∧ i = .int .i64 j ∧ OwnS wr w.heap.size u (mTo l j) ∧ Below w.heap.size w wr) (fun _ i _ => l.length - (intOf i).toNat)
 case atStart => exact ⟨0,Nat.zero_le _,rfl,World.ownsRow_nil _ _ _ _,Below.refl _ _⟩
 case round =>
  obtain ⟨j,hj,rfl,hown,hbw⟩:=hrel
  by_cases hlt : j < l.length
  ·rcases h with h | ⟨b,off,rfl,hbl,hc⟩
   ·rw [h] at hlt; exact absurd hlt (by simp)
   ·obtain ⟨c1,c2⟩:=(hc.below hbw hbl) j hlt
    obtain ⟨x,y,hxy⟩ : ∃ x y,l[j] = (x,y):=⟨_,_,rfl⟩
    rw [getD_eq l j hlt,hxy] at c1 c2
    dsimp only at c1 c2
    have hT:=mTo_succ l j hlt
    have hTl:=z8x l j hj
    rw [hxy] at hT
    have HT:=Jh hT
    have HC:=Jh hc
    have hsw:=hbw.size
    have hbr : b < wr.heap.size:=by omega
    clear hxy hc hT
    rcases List.eq_nil_or_concat (mTo l j) with he | ⟨pre,t,he⟩
    ·have HE:=Jh he
     rw [he] at hown
     obtain ⟨au,cu,rfl⟩:=hown.shape
     simp only [List.length_nil] at hown ⊢
     clear he hTl
     go_wp2_with fail
     go_quiet (fail)
     generalize (Value.slice au 0 cu) = vv at hown ⊢
     obtain ⟨Wq,hWq⟩ : ∃ Wq : World,(wr.alloc (.cells #[.int .i64 x,.int .u8 y] 29)).drewN nq = Wq:=⟨_,rfl⟩
     have hBq : Below wr.heap.size wr Wq:=by rw [← hWq]; exact below_drewN ((Below.refl _ wr).alloc (Nat.le_refl _) _) _
     have q2 : Wq.cell? ⟨wr.heap.size,0,none⟩ = some (.int .i64 x):=by rw [← hWq]; simp [World.cell?_alloc_at]
     have q3 : Wq.cell? ⟨wr.heap.size,1,none⟩ = some (.int .u8 y):=by rw [← hWq]; simp [World.cell?_alloc_at]
     rw [hWq]
     have hown:=hown.below hBq
     have HB:=Jh hBq
     have hsq:=hBq.size
     clear hWq hBq
     go_wp2_with (at_builtin; refine wpList_append_own_at _ rfl _ _ 48 rfl w.heap.size 29 i0 _ 2 16 Tryz.underlying48 hi hz0 hz1 hz2 rfl (by decide) _ _ _ rfl (World.ownsRow.alloc hown _) _ 1 1 [.int .i64 x,.int .u8 y] rfl rfl (z2a _ _ _ _) ?c2 ?c3 ?c4 ?c5 ?_)
     case c2 => intro u hu; simp at hu; rcases hu with rfl | rfl <;> rfl
     case c3 => simp [maxLen]
     case c4 => simp
     case c5 => simp; omega
     intro v' w1 hown' hgrow hnil hat
     go_wp2_with fail
     refine ⟨⟨j + 1,by omega,by push_cast; rfl,?_,?_⟩,?_⟩
     ·rw [HT.out,HE.out,z3v]
      show w1.ownsRow _ _ _ _ _ _
      exact hown'
     ·exact ((hbw.trans (HB.out.mono hsw)).alloc (by omega) _).grown hgrow (by simp; omega) (fun k hk => (World.ownsRow.lt hown k hk).1)
     ·simp [intOf]; omega
    ·rw [List.concat_eq_append] at he
     have HE:=Jh he
     rw [he] at hown
     obtain ⟨g,cp,rfl,hg,hgl,k1,k2,k3,k4⟩:=hown.last
     have HK:=Jh k4
     have HO:=Jh hown
     have hpl : pre.length < 10000:=by rw [he] at hTl; simp at hTl; omega
     clear k4 hown he hTl
     by_cases hs : t.2 = y
     ·have f1 : (t.2 == y) = true:=by simpa using hs
      have HS:=Jh hs
      clear hs
      go_wp2_with fail
      go_quiet (fail)
      go_wp2_with fail
      obtain ⟨Wq,hWq⟩ : ∃ Wq : World,(wr.alloc (.cells #[.int .i64 x,.int .u8 y] 29)).drewN nq = Wq:=⟨_,rfl⟩
      have hgr : g ≠ wr.heap.size:=by omega
      have q1 : Wq.cell? ⟨g,pre.length * 2,none⟩ = some (.int .i64 t.1):=by rw [← hWq]; simp [World.cell?_alloc_past,hgl,k1]
      have q2 : Wq.cell? ⟨wr.heap.size,0,none⟩ = some (.int .i64 x):=by rw [← hWq]; simp [World.cell?_alloc_at]
      have q3 : Wq.frozen? ⟨g,pre.length * 2,none⟩ = false:=by rw [← hWq]; simp [World.frozen?_alloc_past,hgl,k3]
      rw [hWq]
      have HW:=Jh hWq
      clear hWq
      have hw1 : IntKind.i64.wrap ((pre.length : Int) + 1 - 1) = (pre.length : Int):=by rw [IntWalk.i64_in _ (by omega)]; omega
      have hb0 : (0 : Int) ≤ (pre.length : Int):=by omega
      have hw2 : IntKind.i64.wrap (pre.length : Int) = (pre.length : Int):=IntWalk.i64_in _ (by omega)
      have hb1 : (pre.length : Int) < (pre.length : Int) + 1:=by omega
      go_still_tail 11,(by kernel_rfl)
      change wpList _ _ _ _ _ Wq.drew
      go_wp2_with fail
      have hBq : Below wr.heap.size wr Wq:=by rw [← HW.out]; exact below_drewN ((Below.refl _ wr).alloc (Nat.le_refl _) _) _
      have ho : OwnS Wq w.heap.size (.slice (some ⟨g,0,none⟩) (pre.length + 1) cp) (pre ++ [t]):=HO.out.below hBq
      refine ⟨⟨j + 1,by omega,by push_cast; rfl,?_,?_⟩,?_⟩
      ·rw [HT.out,HE.out,z1x _ _ _ HS.out]
       exact World.ownsRow.drew (ho.set _)
      ·exact ((hbw.trans (hBq.mono hsw)).setCell hg _).drew
      ·simp [intOf]; omega
     ·have f1 : (t.2 == y) = false:=by simpa using hs
      have HS:=Jh hs
      clear hs
      go_wp2_with fail
      go_quiet (fail)
      clear HK k1 k2 k3 f1
      have hown:=HO.out
      clear HO
      generalize (Value.slice (some ⟨g,0,none⟩) (pre.length + 1) cp) = vv at hown ⊢
      obtain ⟨Wq,hWq⟩ : ∃ Wq : World,(wr.alloc (.cells #[.int .i64 x,.int .u8 y] 29)).drewN nq = Wq:=⟨_,rfl⟩
      have hBq : Below wr.heap.size wr Wq:=by rw [← hWq]; exact below_drewN ((Below.refl _ wr).alloc (Nat.le_refl _) _) _
      have q2 : Wq.cell? ⟨wr.heap.size,0,none⟩ = some (.int .i64 x):=by rw [← hWq]; simp [World.cell?_alloc_at]
      have q3 : Wq.cell? ⟨wr.heap.size,1,none⟩ = some (.int .u8 y):=by rw [← hWq]; simp [World.cell?_alloc_at]
      rw [hWq]
      have hown:=hown.below hBq
      have HB:=Jh hBq
      have hsq:=hBq.size
      clear hWq hBq
      have hpl' : (pre ++ [t]).length = pre.length + 1:=by simp
      go_wp2_with (at_builtin; refine wpList_append_own_at _ rfl _ _ 48 rfl w.heap.size 29 i0 _ 2 16 Tryz.underlying48 hi hz0 hz1 hz2 rfl (by decide) _ _ _ rfl (World.ownsRow.alloc hown _) _ 1 1 [.int .i64 x,.int .u8 y] rfl rfl (z2a _ _ _ _) ?c2 ?c3 ?c4 ?c5 ?_)
      case c2 => intro u hu; simp at hu; rcases hu with rfl | rfl <;> rfl
      case c3 => simp only [hpl',maxLen]; omega
      case c4 => simp only [hpl']; omega
      case c5 => simp; omega
      intro v' w1 hown' hgrow hnil hat
      go_wp2_with fail
      refine ⟨⟨j + 1,by omega,by push_cast; rfl,?_,?_⟩,?_⟩
      ·rw [HT.out,HE.out,z2m _ _ _ HS.out]
       show w1.ownsRow _ _ _ _ _ _
       have hh : (pre ++ [t] ++ [(x,y)]).length = (pre ++ [t]).length + 1:=by simp
       rw [z1m,hh,hpl']
       exact hown'
      ·exact ((hbw.trans (HB.out.mono hsw)).alloc (by omega) _).grown hgrow (by simp; omega) (fun k hk => (World.ownsRow.lt hown k hk).1)
      ·simp [intOf]; omega
  ·have hje : j = l.length:=by omega
   subst hje
   clear h hlt
   go_wp2_with fail
   go_ret
   rw [mTo_all] at hown
   exact ⟨⟨_,rfl,hown⟩,hbw⟩
end Go.Proofs.YtockinpjfhhkoaaGreatDoor
