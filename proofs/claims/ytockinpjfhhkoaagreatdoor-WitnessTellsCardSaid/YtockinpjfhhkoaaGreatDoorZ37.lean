/- The document's check of a proof, part by part: plain. -/
import Derived.Test.YtockinpjfhhkoaaGreatDoorZ35
import Derived.Test.YtockinpjfhhkoaaGreatDoorZ27
import Derived.Test.YtockinpjfhhkoaaGreatDoorZ05
import Derived.Test.YtockinpjfhhkoaaGreatDoorZ22
set_option maxRecDepth 100000
set_option maxHeartbeats 16000000
open List renaming getElem?_toArray → J9
open Go.Lib renaming cell_of_heap → Jc
namespace Go.Proofs.YtockinpjfhhkoaaGreatDoor
open Go.RowKit
def okAt {α : Type} (shows : X → Int × Int → Int × Int → α → Bool) (tm : Bool) (t u : Int × Int) (row : List (Int × Int)) (ps : List X) (of : List α) (j : Nat) : Bool :=
 match ps[j]?,of[j]? with
 | some x,some w => shows x (if tm then row.getD j t else t) (if tm then row.getD (j + 1) u else u) w
 | _,_ => true
def allK {α : Type} (shows : X → Int × Int → Int × Int → α → Bool) (tm : Bool) (t u : Int × Int) (row : List (Int × Int)) (ps : List X) (of : List α) : Nat → Nat → Bool
 | _,0 => true
 | j,k + 1 => okAt shows tm t u row ps of j && allK shows tm t u row ps of (j + 1) k
def headD (hold : F → Int → Bool) (l : List (Int × Int)) (is : List F) (t u : Int × Int) : Bool:=match is with | f :: _ => z5x (hold f) l t u | [] => false
def z3a {α : Type} (hold : F → Int → Bool) (l : List (Int × Int)) (shows : X → Int × Int → Int × Int → α → Bool) (k : Int) (is : List F) (i : Spn) (t u : Int × Int) (wk sd side : Int) (ps : List X) (at_ : List (Int × Int)) (of : List α) : Bool :=
 wk == k && sd == side && of.length == ps.length && at_.length == (if k = 4 ∨ k = 5 then of.length - 1 else 0) &&
  (if k = 1 then headD hold l is t u
   else !(decide (at_ ≠ []) && !z23 (t :: (at_ ++ [u]))) && !(decide (k = 6) && !z2k t u i) && allK shows (decide (at_ ≠ [])) t u (t :: (at_ ++ [u])) ps of 0 of.length)
def stepH {α : Type} (hold : F → Int → Bool) (l : List (Int × Int)) (shows : X → Int × Int → Int × Int → α → Bool) (k : Int) (is : List F) (xs : List X) (i : Spn) (t u : Int × Int) (wk sd : Int) (at_ : List (Int × Int)) (of : List α) : Bool :=
 if k = 2 then (if sd < 1 ∨ 2 < sd then false else z3a hold l shows k is i t u wk sd sd ((xs.drop (sd - 1).toNat).take 1) at_ of)
 else if k = 5 then (if of.length = 0 then false else z3a hold l shows k is i t u wk sd 0 (List.replicate of.length (xs.getD 0 (.mk 0 [] [] noSpan))) at_ of)
 else z3a hold l shows k is i t u wk sd 0 xs at_ of
theorem row_all {α : Type} (shows : X → Int × Int → Int × Int → α → Bool) (x : X) (t u : Int × Int) (N : Nat) (full : List (Int × Int)) (of : List α) (hN : of.length ≤ N) : ∀ (r : List (Int × Int)) (o : List α) (j : Nat),full.drop j = r → of.drop j = o → r.length = o.length + 1 →
 rowD (shows x) r o = allK shows true t u full (List.replicate N x) of j o.length
 | r,[],j,_,_,_ => by cases r with
  | nil => rfl
  | cons a r => cases r <;> rfl
 | [],y :: z,_,_,_,h => by simp at h
 | [a],y :: z,_,_,_,h => by simp at h
 | a :: b :: r,y :: z,j,h1,h2,h3 => by
  have ih:=row_all shows x t u N full of hN (b :: r) z (j + 1) (by rw [← List.drop_drop,h1]; rfl) (by rw [← List.drop_drop,h2]; rfl) (by simp only [List.length_cons] at h3 ⊢; omega)
  have hj : j < of.length:=by
   rcases Nat.lt_or_ge j of.length with h | h
   ·exact h
   ·rw [List.drop_eq_nil_of_le h] at h2; cases h2
  have e0 : full[j]? = some a:=by have:=congrArg (·[0]?) h1; simpa using this
  have e1 : full[j + 1]? = some b:=by have:=congrArg (·[1]?) h1; simpa [Nat.add_comm] using this
  have e2 : of[j]? = some y:=by have:=congrArg (·[0]?) h2; simpa using this
  have e3 : (List.replicate N x)[j]? = some x:=by rw [List.getElem?_replicate,if_pos (by omega)]
  show (shows x a b y && rowD (shows x) (b :: r) z) = (okAt shows true t u full (List.replicate N x) of j && allK shows true t u full (List.replicate N x) of (j + 1) z.length)
  rw [ih]
  unfold okAt
  rw [e2,e3]
  simp only [List.getD_eq_getElem?_getD,e0,e1,if_true,Option.getD_some]
theorem stepH_eq {α : Type} (hold : F → Int → Bool) (l : List (Int × Int)) (shows : X → Int × Int → Int × Int → α → Bool) (k : Int) (is : List F) (xs : List X) (i : Spn) (t u : Int × Int) (wk sd : Int) (at_ : List (Int × Int)) (of : List α)
 (hk : (k = 1 ∧ xs = []) ∨ (k = 2 ∧ xs.length = 2) ∨ (k = 3 ∧ xs.length = 2) ∨ (k = 4 ∧ xs.length = 2) ∨ (k = 5 ∧ xs.length = 1) ∨ (k = 6 ∧ xs.length = 1)) :
 z6b hold l shows k is xs i t u wk sd at_ of = stepH hold l shows k is xs i t u wk sd at_ of:=by
 unfold z6b stepH
 rcases hk with ⟨rfl,rfl⟩ | ⟨rfl,h⟩ | ⟨rfl,h⟩ | ⟨rfl,h⟩ | ⟨rfl,h⟩ | ⟨rfl,h⟩
 ·unfold z3a
  simp only [if_true,List.length_nil]
  cases at_ <;> cases of <;> cases is <;> simp [Bool.and_assoc,headD]
 ·match xs,h with
  | [x,y],_ =>
   simp only [show ¬ ((2 : Int) = 1) by decide,if_false,if_true]
   by_cases h1 : sd < 1 ∨ 2 < sd
   ·rw [if_pos h1]
    rcases h1 with h1 | h1
    ·rw [decide_eq_false (show ¬ 1 ≤ sd by omega)]; simp
    ·rw [decide_eq_false (show ¬ sd ≤ 2 by omega)]; simp
   ·rw [if_neg h1]
    rcases (by omega : sd = 1 ∨ sd = 2) with rfl | rfl
    ·unfold z3a
     cases at_ with
     | nil => match of with
      | [] => simp
      | [w] => simp [allK,okAt]
      | _ :: _ :: _ => simp
     | cons a r => simp
    ·unfold z3a
     cases at_ with
     | nil => match of with
      | [] => simp
      | [w] => simp [allK,okAt]
      | _ :: _ :: _ => simp
     | cons a r => simp
 ·match xs,h with
  | [x,y],_ =>
   unfold z3a
   cases at_ with
   | nil => match of with
    | [] => simp
    | [w] => simp
    | [v,w] => simp [allK,okAt,Bool.and_assoc]
    | _ :: _ :: _ :: _ => simp
   | cons a r => simp
 ·match xs,h with
  | [x,y],_ =>
   unfold z3a
   match at_,of with
   | [],[] => simp
   | [],[w] => simp
   | [],[v,w] => simp
   | [],_ :: _ :: _ :: _ => simp
   | [s],[] => simp
   | [s],[w] => simp
   | [s],[v,w] => simp [allK,okAt,Bool.and_assoc]
   | [s],_ :: _ :: _ :: _ => simp
   | _ :: _ :: _,[] => simp
   | _ :: _ :: _,[w] => simp
   | _ :: _ :: _,[v,w] => simp
   | _ :: _ :: _,_ :: _ :: _ :: _ => simp
 ·match xs,h with
  | [x],_ =>
   simp only [show ¬ ((5 : Int) = 1) by decide,show ¬ ((5 : Int) = 2) by decide,show ¬ ((5 : Int) = 3) by decide,show ¬ ((5 : Int) = 4) by decide,if_false,if_true]
   by_cases h0 : of.length = 0
   ·rw [if_pos h0]
    have : of = []:=List.eq_nil_of_length_eq_zero h0
    subst this
    simp
   ·rw [if_neg h0]
    unfold z3a
    have e3 : (if (5 : Int) = 4 ∨ (5 : Int) = 5 then of.length - 1 else 0) = of.length - 1:=by simp
    rw [e3]
    simp only [show ¬ ((5 : Int) = 1) by decide,if_false,List.length_replicate,beq_self_eq_true,Bool.and_true]
    by_cases hl : of.length = at_.length + 1
    ·have e1 : (of.length == at_.length + 1) = true:=by simpa using hl
     have e2 : (at_.length == of.length - 1) = true:=by simp; omega
     rw [e1,e2]
     have hg : ([x].getD 0 (X.mk 0 [] [] noSpan)) = x:=rfl
     rw [hg]
     cases at_ with
     | nil =>
      match of,hl with
      | [w],_ => simp [allK,okAt,rowD,Bool.and_assoc]
     | cons a r =>
      have hr:=row_all shows x t u of.length (t :: (a :: r ++ [u])) of (Nat.le_refl _) (t :: (a :: r ++ [u])) of 0 rfl rfl (by simp at hl ⊢; omega)
      rw [hr]
      simp [Bool.and_assoc]
    ·have e1 : (of.length == at_.length + 1) = false:=by simpa using hl
     have e2 : (at_.length == of.length - 1) = false:=by simp; omega
     rw [e1,e2]
     simp
 ·match xs,h with
  | [x],_ =>
   unfold z3a
   cases at_ with
   | nil => match of with
    | [] => simp
    | [w] => simp [allK,okAt,Bool.and_assoc]
    | _ :: _ :: _ => simp
   | cons a r => simp
open Go.RowKit
theorem info47 : (Tryz.prog.info? 47).map (fun i => (i.zero.map fun v => v.cells.size,i.size,i.bytes)) = some (some 8,8,88):=by kernel_rfl
theorem info_parts8 {i : Option TypeInfo} {c s b : Nat} (h : i.map (fun i => (i.zero.map fun v => v.cells.size,i.size,i.bytes)) = some (some c,s,b)) : ∃ i0 z,i = some i0 ∧ i0.zero = some z ∧ i0.size = s ∧ i0.bytes = b ∧ z.cells.size = c:=by
 cases i with
 | none => cases h
 | some i0 =>
  simp only [Option.map_some,Option.some.injEq,Prod.mk.injEq] at h
  obtain ⟨h1,h2,h3⟩:=h
  cases hz : i0.zero with
  | none => rw [hz] at h1; cases h1
  | some z => rw [hz] at h1; simp only [Option.map_some,Option.some.injEq] at h1; exact ⟨i0,z,rfl,hz,h2,h3,h1⟩
theorem run_tre (w : World) (B g n : Nat) (v : Value) (xs vs : List Value) (ho : w.ownsRow B 47 8 v n xs) (hB : B ≤ w.heap.size) (hg : w.heap[g]? = some (.cells vs.toArray 47 (0,0))) (h8 : vs.length = 8) (h1 : ∀ u ∈ vs,u.oneCell' = true) (hn : n ≤ 100000) :
 ∃ v' w',(Builtin.append_ #[43,43] 43 #[v,.slice (some ⟨g,0,none⟩) 1 1]).run Tryz.prog w = .ok v' w' ∧ w'.ownsRow B 47 8 v' (n + 1) (xs ++ vs) ∧ Below B w w':=by
 obtain ⟨i0,z,hi,hz0,hz1,hz2,hz3⟩:=info_parts8 info47
 obtain ⟨v',w',e1,e2,e3,e4,e5⟩:=run_append_own_at (P:=Tryz.prog) w B 43 43 47 i0 z 8 88 Tryz.underlying43 hi hz0 hz1 hz2 hz3 (by decide) v n xs ho ⟨g,0,none⟩ 1 1 vs (by omega) (by
  intro j u hj
  rw [Addr.add_lit,Nat.zero_add,Jc hg j,J9]
  exact hj) h1 (by simp only [maxLen]; omega) (by omega) hB
 exact ⟨v',w',e1,e2,(Below.refl B w).grown e3 hB (fun k hk => (World.ownsRow.lt ho k hk).1)⟩
def OwnR (w : World) (B : Nat) (v : Value) (l : List (Int × Int)) : Prop:=w.ownsRow B 50 2 v l.length (vRat l)
theorem vRat_app (a b : List (Int × Int)) : vRat (a ++ b) = vRat a ++ vRat b:=by unfold vRat; rw [List.flatMap_append]
theorem OwnR.rats {w : World} {B : Nat} {v : Value} {l : List (Int × Int)} (h : OwnR w B v l) (hm : l.length ≤ 9223372036854775807) : RatsRep w w.heap.size v l:=by
 have h':=h
 obtain ⟨_,hh⟩:=h
 rcases hh with ⟨rfl,h0⟩ | ⟨g,cap,cur,rfl,hg,hb,_,_,_,_⟩
 ·exact ⟨none,0,by rw [h0],hm,.inl (List.eq_nil_of_length_eq_zero h0)⟩
 ·refine ⟨_,cap,rfl,hm,.inr ⟨g,0,rfl,(Array.getElem?_eq_some_iff.1 hb).1,fun i hi => ?_⟩⟩
  have h3:=vRat_at l i hi
  unfold OwnR at h'
  refine ⟨?_,?_⟩
  ·rw [Nat.zero_add,h'.cellAt _ (by omega)]; exact h3.1
  ·rw [Nat.zero_add,h'.cellAt _ (by omega)]; exact h3.2
theorem run_rats (w : World) (B : Nat) (v sv : Value) (L r : List (Int × Int)) (ho : OwnR w B v L) (hB : B ≤ w.heap.size) (hs : RatsRep w w.heap.size sv r) (hz : L.length + r.length ≤ 200000) :
 ∃ v' w',(Builtin.append_ #[53,53] 53 #[v,sv]).run Tryz.prog w = .ok v' w' ∧ OwnR w' B v' (L ++ r) ∧ Below B w w':=by
 obtain ⟨a,cap,rfl,hm,hc⟩:=hs
 obtain ⟨i0,hi,hz0,hz1,hz2⟩:=info_parts info50
 by_cases h0 : r = []
 ·subst h0
  have ho':=ho
  obtain ⟨_,hh⟩:=ho
  rw [List.append_nil]
  rcases hh with ⟨rfl,h0⟩ | ⟨g,cp,cur,rfl,hg,hb,_,_,_,_⟩
  ·refine ⟨.slice none 0 0,w,?_,ho',Below.refl _ _⟩
   cases a <;> simp [Builtin.append_,run_underlying Tryz.underlying53,sizeOf,typeInfo,hi,Builtin.lenOf,Builtin.firstCells,loadCells,loadCellsFrom]
  ·have hle : L.length ≤ cp:=by assumption
   refine ⟨.slice (some ⟨g,0,none⟩) L.length cp,w,?_,ho',Below.refl _ _⟩
   cases a <;> simp [Builtin.append_,run_underlying Tryz.underlying53,sizeOf,typeInfo,hi,Builtin.lenOf,Builtin.firstCells,loadCells,loadCellsFrom,storeCells,hle]
 ·rcases hc with hc | ⟨b,off,rfl,hbl,hc⟩
  ·exact absurd hc h0
  obtain ⟨v',w',h1,h2,h3,h4,h5⟩:=run_append_own_at (P:=Tryz.prog) w B 53 53 50 i0 _ 2 16 Tryz.underlying53 hi hz0 hz1 hz2 rfl (by decide) v L.length (vRat L) ho ⟨b,off,none⟩ r.length cap (vRat r) (vRat_len r) (by
   intro j u hj
   have hjl : j < r.length * 2:=by rw [← vRat_len]; exact (List.getElem?_eq_some_iff.1 hj).1
   have h2:=hc (j / 2) (by omega)
   have h3:=vRat_at r (j / 2) (by omega)
   rw [Addr.add_lit]
   rcases Nat.mod_two_eq_zero_or_one j with e | e
   ·have ej : j / 2 * 2 = j:=by omega
    rw [ej] at h2 h3
    rw [h2.1,← h3.1,hj]
   ·have ej : j / 2 * 2 + 1 = j:=by omega
    have ek : off + j / 2 * 2 + 1 = off + j:=by omega
    rw [ej] at h3
    rw [ek] at h2
    rw [h2.2,← h3.2,hj]) (by
   intro u hu
   obtain ⟨y,_,hy⟩:=List.mem_flatMap.1 hu
   simp at hy
   rcases hy with rfl | rfl <;> rfl) (by simp only [maxLen]; omega) (by omega) hB
  refine ⟨v',w',h1,?_,(Below.refl B w).grown h3 hB (fun k hk => (World.ownsRow.lt ho k hk).1)⟩
  show w'.ownsRow B 50 2 v' (L ++ r).length (vRat (L ++ r))
  rw [List.length_append,vRat_app]
  exact h2
theorem own_one {w : World} {B g : Nat} {a p : Int} (h : w.heap[g]? = some (.cells #[.int .i64 a,.int .i64 p] 50 (0,0))) (hB : B ≤ g) : OwnR w B (.slice (some ⟨g,0,none⟩) 1 1) [(a,p)] :=
 ⟨rfl,.inr ⟨g,1,#[.int .i64 a,.int .i64 p],rfl,hB,h,Nat.le_refl _,by decide,rfl,rfl⟩⟩
def fineX (names : List ByteArray) {m : Nat} : (n : Nat) → XT m n → Prop
 | 0,_ => False
 | n + 1,x => (∀ f ∈ x.2.1,fmlR names m f = 0 ∧ allF z04 m f = true ∧ allF (z0g names) m f = true) ∧ ∀ y ∈ x.2.2.1,fineX names n y
theorem fine_of {names : List ByteArray} {m : Nat} (h0 : z0r names = 0) : ∀ (n : Nat) (x : XT m n),allX z02 n x = true → allX (z12 names) n x = true → nX n x ≤ 64 → fineX names n x
 | 0,x,_,_,_ => nomatch x
 | n + 1,x,h1,h2,h3 => by
  rw [allX,Bool.and_eq_true,List.all_eq_true] at h1 h2
  have hr:=h1.1
  have hd:=h2.1
  rw [nX] at h3
  refine ⟨fun f hf => ?_,fun y hy => fine_of h0 n y (h1.2 y hy) (h2.2 y hy) (by have:=z4k (nX n) x.2.2.1 y hy; omega)⟩
  unfold z02 at hr
  simp only [Bool.and_eq_true,decide_eq_true_eq,beq_iff_eq] at hr
  obtain ⟨_,hr6⟩:=hr
  have hdf : allF (z0g names) m f = true:=by
   unfold z12 at hd
   rw [List.all_eq_true] at hd
   exact hd f hf
  by_cases hk : x.1 = 1
  ·rw [if_pos hk] at hr6 h3
   simp only [Bool.and_eq_true,List.all_eq_true] at hr6
   have hrf:=hr6.2 f hf
   have hn : nF m f ≤ 64:=by have:=z4k (nF m) x.2.1 f hf; omega
   refine ⟨fmlR_zero.2 ⟨h0,hrf,?_,hdf⟩,hrf,hdf⟩
   rw [fmsC_n [f] (by simp; omega)]
   simp; omega
  ·rw [if_neg hk] at hr6
   have he : x.2.1 = []:=by
    have : x.2.1.length = 0:=by simpa using hr6
    exact List.eq_nil_of_length_eq_zero this
   rw [he] at hf
   cases hf
theorem hold_same {names : List ByteArray} {m : Nat} {f : FT m} (h : fmlR names m f = 0) {on : Int} (ho : ¬ 0 < on / 2 ^ names.length) : z1v names f on = z0b names m f on:=by
 unfold z1v z28
 rw [if_neg (by simp [h]),if_neg ho]
 simp
theorem z5t {g h : Int → Bool} {t u : Int × Int} : ∀ (l : List (Int × Int)) (a : Int),(∀ s ∈ l,g s.2 = h s.2) → z1r g t u a l = z1r h t u a l
 | [],_,_ => rfl
 | s :: r,a,H => by rw [z1r,z1r,H s (by simp),z5t r _ fun x hx => H x (by simp [hx])]
theorem atomD_congr {g h : Int → Bool} {l : List (Int × Int)} {t u : Int × Int} (H : ∀ s ∈ l,g s.2 = h s.2) : z5x g l t u = z5x h l t u:=by
 unfold z5x
 rw [z5t l 0 H]
end Go.Proofs.YtockinpjfhhkoaaGreatDoor
