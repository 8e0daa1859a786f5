/- The small functions of layer 15, and of its book, on bytes and runes. -/
import Derived.Shelf.Abstract
import Derived.WalkKit
import Derived.WalkSpells
import Derived.WalkLawsBesides
import Derived.Lib.Hide
import Derived.Test.YtockinpjfhhkoaaGreatDoorProg
import Derived.Test.YtockinpjfhhkoaaGreatDoorZ00
import Derived.StillTailTactics
import Derived.Deep.RegionHeld3
import Derived.Deep.DrawnRows
import Derived.Maps.AppendAt
import Derived.Deep.RegionLaw
import Derived.Deep.AppendLies
import Derived.WalkSmall
import Derived.Deep.QuietTactic
import Derived.BigQuiet
import Derived.LoopTactic
set_option maxRecDepth 100000
set_option maxHeartbeats 16000000
namespace Go.Proofs.YtockinpjfhhkoaaGreatDoor
open Go.RowKit Go.Shelf
theorem ret_bool {a b : Bool} {w : World} (h : a = b) : (Ending.returned (.bool a) = .returned (.bool b) ∧ w = w):=⟨by rw [h],rfl⟩
theorem ret_int {k : IntKind} {a b : Int} {w : World} (h : a = b) : (Ending.returned (.int k a) = .returned (.int k b) ∧ w = w):=⟨by rw [h],rfl⟩
def z6x (r : Int) : Int:=if 97 ≤ r ∧ r ≤ 122 then 2 else if 48 ≤ r ∧ r ≤ 57 then 3 else if r = 32 ∨ r = 9 ∨ r = 10 ∨ r = 13 then 1 else 0
theorem z6a (r : Int) (w : World) : Calls Tryz.prog 195 #[.int .i32 r] w fun e w' => e = .returned (.int .i64 (z6x r)) ∧ w' = w:=by
 go_enter Tryz.func195,Tryz.ntmps195
 go_wp2
 all_goals go_ret
 all_goals (refine ret_int ?_; unfold z6x; try omega)
 all_goals (simp only [beq_iff_eq,beq_eq_false_iff_ne,ne_eq] at *; omega)
open Go.RowKit Go.Shelf
attribute [local go_sem ↓] Go.wp_at_zero Go.wp_at_succ
def Tok.cells (t : Tok) : List Value:=[.int .u8 t.kind,.string t.text,.int .i64 t.place]
def Tok.val (t : Tok) : Value:=.agg #[.int .u8 t.kind,.string t.text,.int .i64 t.place]
def z8v : Tok:=⟨0,.empty,0⟩
def TokC (w : World) (b off : Nat) (l : List Tok) : Prop :=
 ∀ i,(h : i < l.length) → w.cell? ⟨b,off + i * 3,none⟩ = some (.int .u8 l[i].kind) ∧ w.cell? ⟨b,off + i * 3 + 1,none⟩ = some (.string l[i].text) ∧ w.cell? ⟨b,off + i * 3 + 2,none⟩ = some (.int .i64 l[i].place)
def Toks (w : World) (B : Nat) (v : Value) (l : List Tok) : Prop :=
 ∃ a cap,v = .slice a l.length cap ∧ l.length ≤ 9223372036854775807 ∧ (l = [] ∨ ∃ b off,a = some ⟨b,off,none⟩ ∧ b < B ∧ TokC w b off l)
def z4i (l : List Tok) : List Value:=l.flatMap Tok.cells
theorem z3d (a b : List Tok) : z4i (a ++ b) = z4i a ++ z4i b:=by simp [z4i]
theorem zam (s : Tok) : z4i [s] = s.cells:=by simp [z4i]
theorem z5t : ∀ l : List Tok,(z4i l).length = l.length * 3
 | [] => rfl
 | s :: l => by
  have:=z5t l
  show (z4i ([s] ++ l)).length = _
  rw [z3d,List.length_append,this]
  simp [zam,Tok.cells]; omega
theorem z92 : ∀ (l : List Tok) (i : Nat),(h : i < l.length) → (z4i l)[i * 3]? = some (.int .u8 l[i].kind) ∧ (z4i l)[i * 3 + 1]? = some (.string l[i].text) ∧ (z4i l)[i * 3 + 2]? = some (.int .i64 l[i].place)
 | [],i,h => by simp at h
 | s :: l,0,_ => by simp [z4i,Tok.cells]
 | s :: l,i + 1,h => by
  have:=z92 l i (by simpa using h)
  have h2 : z4i (s :: l) = s.cells ++ z4i l:=by simp [z4i]
  have h3 : s.cells.length = 3:=rfl
  rw [h2,List.getElem?_append_right (by rw [h3]; omega),List.getElem?_append_right (by rw [h3]; omega),List.getElem?_append_right (by rw [h3]; omega),h3]
  rw [show (i + 1) * 3 - 3 = i * 3 by omega,show (i + 1) * 3 + 1 - 3 = i * 3 + 1 by omega,show (i + 1) * 3 + 2 - 3 = i * 3 + 2 by omega]
  simpa using this
def OwnT (w : World) (B : Nat) (v : Value) (l : List Tok) : Prop:=w.ownsRow B 194 3 v l.length (z4i l)
theorem OwnT.shape {w : World} {B : Nat} {v : Value} {l : List Tok} (h : OwnT w B v l) : ∃ a c,v = .slice a l.length c:=by
 rcases h.2 with ⟨rfl,h0⟩ | ⟨g,cap,cur,hv,_⟩
 ·exact ⟨none,0,by rw [h0]⟩
 ·exact ⟨_,_,hv⟩
theorem OwnT.below {w w' : World} {B : Nat} {v : Value} {l : List Tok} (h : OwnT w B v l) (hb : Below w.heap.size w w') : OwnT w' B v l :=
 World.ownsRow.kept h (row:=none) ⟨hb.os,hb.tape,hb.output,hb.size,fun j hj _ => hb.block j hj⟩ (by cases hv : v.ownBlock <;> simp)
theorem OwnT.toks {w : World} {B : Nat} {v : Value} {l : List Tok} (h : OwnT w B v l) (hm : l.length ≤ 9223372036854775807) : Toks w w.heap.size v l:=by
 have h':=h
 obtain ⟨_,hh⟩:=h
 rcases hh with ⟨rfl,h0⟩ | ⟨g,cap,cur,rfl,hg,hb,_,_,_,_⟩
 ·exact ⟨none,0,by rw [h0],hm,.inl (List.eq_nil_of_length_eq_zero h0)⟩
 ·refine ⟨_,cap,rfl,hm,.inr ⟨g,0,rfl,(Array.getElem?_eq_some_iff.1 hb).1,fun i hi => ?_⟩⟩
  have h3:=z92 l i hi
  refine ⟨?_,?_,?_⟩
  ·rw [Nat.zero_add,h'.cellAt _ (by omega)]; exact h3.1
  ·rw [Nat.zero_add,h'.cellAt _ (by omega)]; exact h3.2.1
  ·rw [Nat.zero_add,h'.cellAt _ (by omega)]; exact h3.2.2
theorem OwnT.at {w : World} {B : Nat} {v : Value} {l : List Tok} (h : OwnT w B v l) (h0 : l ≠ []) :
 ∃ g cap,v = .slice (some ⟨g,0,none⟩) l.length cap ∧ B ≤ g ∧ g < w.heap.size ∧ TokC w g 0 l ∧ (∀ j,w.frozen? ⟨g,j,none⟩ = false) ∧
  ∀ j x,w.ownsRow B 194 3 v l.length (z4i l) → (w.setCell ⟨g,j,none⟩ x).ownsRow B 194 3 v l.length ((z4i l).set j x):=by
 have h':=h
 obtain ⟨_,hh⟩:=h
 rcases hh with ⟨_,h0'⟩ | ⟨g,cap,cur,hv,hg,hb,hn,hm,hs,ht⟩
 ·exact absurd (List.eq_nil_of_length_eq_zero h0') h0
 ·subst hv
  refine ⟨g,cap,rfl,hg,(Array.getElem?_eq_some_iff.1 hb).1,?_,fun j => h'.frozenAt _,fun j x ho => (ho.stored j x).1⟩
  intro i hi
  have h3:=z92 l i hi
  refine ⟨?_,?_,?_⟩
  ·rw [Nat.zero_add,World.ownsRow.cellAt h' _ (by omega)]; exact h3.1
  ·rw [Nat.zero_add,World.ownsRow.cellAt h' _ (by omega)]; exact h3.2.1
  ·rw [Nat.zero_add,World.ownsRow.cellAt h' _ (by omega)]; exact h3.2.2
theorem z0u (w : World) (x y z : Value) (t : TypeId) : ∀ j u,[x,y,z][j]? = some u → (w.alloc (.cells #[x,y,z] t)).cell? ((⟨w.heap.size,0,none⟩ : Addr).add j) = some u:=by
 intro j u hj
 match j,hj with
 | 0,hj => simp at hj; subst hj; simp [Addr.add]
 | 1,hj => simp at hj; subst hj; simp [Addr.add]
 | 2,hj => simp at hj; subst hj; simp [Addr.add]
theorem Tryz.info194 : (Tryz.prog.info? 194).map (fun i => (i.zero,i.size,i.bytes)) = some (some (.agg #[.int .u8 0,.string .empty,.int .i64 0]),3,32):=by kernel_rfl
@[local go_sem] theorem eq27 (a d : Int) (b e : ByteArray) (c f : Int) (w : World) : (Op.equalIn 10000 194 (.agg #[.int .u8 a,.string b,.int .i64 c]) (.agg #[.int .u8 d,.string e,.int .i64 f])).run Tryz.prog w = .ok (a == d && (b.toList == e.toList) && c == f) w:=by
 have u3:=Tryz.underlying3
 have a3:=Tryz.isAgg3
 have z3:=Tryz.sizeOf3
 have u5:=Tryz.underlying5
 have a5:=Tryz.isAgg5
 have z5:=Tryz.sizeOf5
 have u9:=Tryz.underlying9
 have a9:=Tryz.isAgg9
 have z9:=Tryz.sizeOf9
 have hS : Tryz.prog.underlying 194 = some (.struct (Tryz.prog.fieldsOf 194)):=by kernel_rfl
 have hp : Tryz.prog.stoodInHeld 194 = false:=by kernel_rfl
 rw [show (10000 : Nat) = 9999 + 1 from rfl,run_equalIn_agg w 9999 194 _ _ hS hp]
 simp only [Program.fieldsOf,Tryz.underlying194]
 go_simp
 by_cases h1 : a = d <;> by_cases h2 : b.toList = e.toList <;> by_cases h3 : c = f <;> simp [h1,h2,h3]
theorem z8r {a b : ByteArray} (h : a.toList = b.toList) : a = b:=by
 rw [ByteArray.toList_eq,ByteArray.toList_eq] at h
 cases a; cases b; simp_all
theorem z2r {B : Nat} {a w : World} (h : Below B a w) (n : Nat) : Below B a (w.drewN n):=h.trans ⟨rfl,rfl,rfl,Nat.le_refl _,fun _ _ => rfl⟩
theorem z02 {a b : Bool} (h : a = b) : Ending.returned (.bool a) = .returned (.bool b):=by rw [h]
open Go.RowKit Go.Shelf
theorem z6c (s : ByteArray) (k : Nat) (h : k < s.size) : s[k]'h = s.data.toList[k]'(by simpa using h):=by simp; rfl
theorem z4l (s : ByteArray) : s.data.toList.length = s.size:=by simp
def z79 (l : List UInt8) : Bool:=decide (1 ≤ l.length) && decide (l.length ≤ 8) && (l.head?.map z7q == some true) && (l.drop 1).all z0o
def signB (l : List UInt8) : Bool:=[[124],[124,124],[38],[38,38],[59],[43],[60],[62],[95],[91],[93],[40],[41],[44],[33],[123],[125]].contains l
def zac (l : List UInt8) : Bool:=z79 l && l != [116,114,117,101] && l != [102,97,108,115,101] && l != [111,111]
open Go.RowKit
def FT : Nat → Type
 | 0 => Empty
 | n + 1 => Int × ByteArray × List (FT n)
structure Spn where
 low : Int
 ls : Bool
 high : Int
 hs : Bool
 op : Bool
 deriving DecidableEq
def XT (m : Nat) : Nat → Type
 | 0 => Empty
 | n + 1 => Int × List (FT m) × List (XT m n) × Spn
def allF (so : Int → ByteArray → Nat → Bool) : (n : Nat) → FT n → Bool
 | 0,_ => true
 | n + 1,t => so t.1 t.2.1 t.2.2.length && t.2.2.all (allF so n)
def z3x (k : Int) : Nat:=if k = 4 then 1 else if k = 5 ∨ k = 6 then 2 else 0
def z13 (k : Int) (s : ByteArray) (l : Nat) : Bool:=decide (1 ≤ k) && decide (k ≤ 6) && (l == z3x k) && (decide (s.size = 0) || k == 3)
def inN (s : ByteArray) (names : List ByteArray) : Bool:=names.any fun x => s.toList == x.toList
def z3o (names : List ByteArray) (k : Int) (s : ByteArray) (_ : Nat) : Bool:=k != 3 || inN s names
def z1l {α : Type} (f : α → Int) (a : Int) (l : List α) : Int:=l.foldl (fun acc x => wrap64 (acc + f x)) a
theorem z91 {α : Type} (f : α → Int) (a : Int) (l : List α) (k : Nat) (h : k < l.length) : z1l f a (l.take (k + 1)) = wrap64 (z1l f a (l.take k) + f l[k]):=by
 unfold z1l
 rw [List.take_succ_eq_append_getElem h,List.foldl_append]
 rfl
theorem zak {α : Type} (f : α → Int) (a : Int) (l : List α) : z1l f a (l.take l.length) = z1l f a l:=by rw [List.take_length]
def cntF : (n : Nat) → FT n → Int
 | 0,_ => 1
 | n + 1,t => z1l (cntF n) 1 t.2.2
def fmsC (n : Nat) (l : List (FT n)) : Int:=z1l (cntF n) 0 l
def z3u (seen : List ByteArray) : List ByteArray → Bool
 | [] => true
 | x :: r => !inN x seen && zac x.data.toList && z3u (x :: seen) r
def z0z (l : List ByteArray) : Int:=if decide (8 < l.length) || !z3u [] l then 2 else 0
def fmlR (names : List ByteArray) (n : Nat) (f : FT n) : Int :=
 if z0z names ≠ 0 then 2 else if allF z13 n f = false then 8 else if 64 < fmsC n [f] then 160 else if allF (z3o names) n f = false then 161 else 0
def belowC (n : Int) : Bool:=decide (0 ≤ n) && decide (n < 288230376151711744)
def ivR (i : Spn) : Int :=
 if !belowC i.low || !belowC i.high || (i.op && (i.high != 0 || i.hs)) then 8
 else if !i.op && (decide (i.high < i.low) || (i.low == i.high && (i.ls || i.hs))) then 162 else 0
def allX {m : Nat} (so : Int → List (FT m) → Nat → Spn → Bool) : (n : Nat) → XT m n → Bool
 | 0,_ => true
 | n + 1,t => so t.1 t.2.1 t.2.2.1.length t.2.2.2 && t.2.2.1.all (allX so n)
def z06 : Spn:=⟨0,false,0,false,false⟩
def z1j (k : Int) : Nat:=if k = 5 ∨ k = 6 then 1 else if k = 2 ∨ k = 3 ∨ k = 4 then 2 else 0
def z0c {m : Nat} (k : Int) (is : List (FT m)) (l : Nat) (i : Spn) : Bool :=
 decide (1 ≤ k) && decide (k ≤ 6) && (l == z1j k) && !(k == 6 && ivR i == 8) && !(k != 6 && i != z06) && (if k = 1 then (is.length == 1) && is.all (allF z13 m) else is.length == 0)
def cntX {m : Nat} (one : Int → List (FT m) → Int) : (n : Nat) → XT m n → Int
 | 0,_ => 1
 | n + 1,t => z1l (cntX one n) (one t.1 t.2.1) t.2.2.1
def oneX {m : Nat} (k : Int) (is : List (FT m)) : Int:=if k = 1 then fmsC m is else 1
def z10 {m : Nat} (n : Nat) (x : XT m n) : Int:=cntX oneX n x
def z2v {m : Nat} (names : List ByteArray) (_ : Int) (is : List (FT m)) (_ : Nat) (_ : Spn) : Bool:=is.all (allF (z3o names) m)
def z2s {m : Nat} (k : Int) (_ : List (FT m)) (_ : Nat) (i : Spn) : Bool:=k != 6 || ivR i == 0
def z0r {m : Nat} (names : List ByteArray) (n : Nat) (x : XT m n) : Int :=
 if z0z names ≠ 0 then 2 else if allX z0c n x = false then 8 else if 64 < z10 n x then 160 else if allX (z2v names) n x = false then 161 else if allX z2s n x = false then 162 else 0
def constX {m : Nat} : (n : Nat) → XT m n → Int
 | 0,_ => 0
 | n + 1,t => t.2.2.1.foldl (fun a y => max a (constX n y)) (max (max 0 t.2.2.2.low) t.2.2.2.high)
def szL {α : Type} (f : α → Int → Int) (most : Int) : List α → Int → Int
 | [],n => n
 | x :: r,n => if n ≤ most then szL f most r (wrap64 (n + f x (wrap64 (most - n)))) else n
theorem szL_drop {α : Type} (f : α → Int → Int) (most : Int) (l : List α) (k : Nat) (n : Int) (h : k < l.length) (hn : n ≤ most) : szL f most (l.drop k) n = szL f most (l.drop (k + 1)) (wrap64 (n + f l[k] (wrap64 (most - n)))):=by
 rw [List.drop_eq_getElem_cons h,szL,if_pos hn]
theorem szL_stop {α : Type} (f : α → Int → Int) (most : Int) (l : List α) (n : Int) (hn : ¬ n ≤ most) : szL f most l n = n:=by
 cases l with
 | nil => rfl
 | cons x r => rw [szL,if_neg hn]
def z38 : (n : Nat) → FT n → Int → Int
 | 0,_,_ => 1
 | n + 1,t,most => szL (z38 n) most t.2.2 (wrap64 (1 + t.2.1.size))
def z3i {m : Nat} : (n : Nat) → XT m n → Int → Int
 | 0,_,_ => 1
 | n + 1,t,most => szL (z3i n) most t.2.2.1 (szL (z38 m) most t.2.1 1)
def bndF : (n : Nat) → FT n → Prop
 | 0,_ => True
 | n + 1,t => t.2.1.size ≤ 281474976710656 ∧ ∀ x ∈ t.2.2,bndF n x
def bndX {m : Nat} : (n : Nat) → XT m n → Prop
 | 0,_ => True
 | n + 1,t => (∀ x ∈ t.2.1,bndF m x) ∧ ∀ x ∈ t.2.2.1,bndX n x
open Go.RowKit
def RowR (w : World) (B C : Nat) {α : Type} (R : α → Value → Prop) (a : Option Addr) (l : List α) : Prop :=
 l.length ≤ 9223372036854775807 ∧ (l = [] ∨ ∃ b off,a = some ⟨b,off,none⟩ ∧ b < B ∧
  ∀ i (h : i < l.length),∃ vs : List Value,vs.length = C ∧ (∀ j,j < C → w.cell? ⟨b,off + i * C + j,none⟩ = vs[j]?) ∧ R l[i] (.agg vs.toArray))
theorem RowR.up {w w' : World} {B B' C : Nat} {α : Type} {R R' : α → Value → Prop} {a : Option Addr} {l : List α} (hb : Below B w w') (hB : B ≤ B') (hR : ∀ x ∈ l,∀ v,R x v → R' x v) (h : RowR w B C R a l) : RowR w' B' C R' a l:=by
 obtain ⟨hm,h⟩:=h
 refine ⟨hm,?_⟩
 rcases h with h | ⟨b,off,ha,hlt,hc⟩
 ·exact .inl h
 ·refine .inr ⟨b,off,ha,by omega,fun i hi => ?_⟩
  obtain ⟨vs,h1,h2,h3⟩:=hc i hi
  exact ⟨vs,h1,fun j hj => (hb.cell (p:=⟨b,_,none⟩) hlt).trans (h2 j hj),hR _ (List.getElem_mem _) _ h3⟩
def FRep (w : World) (B : Nat) : (n : Nat) → FT n → Value → Prop
 | 0,_,_ => False
 | n + 1,t,v => ∃ a cap,v = .agg #[.int .u8 t.1,.string t.2.1,.slice a t.2.2.length cap] ∧ RowR w B 3 (FRep w B n) a t.2.2
abbrev FRow (w : World) (B n : Nat) (a : Option Addr) (l : List (FT n)) : Prop:=RowR w B 3 (FRep w B n) a l
theorem FRep.up {w w' : World} {B B' : Nat} (hb : Below B w w') (hB : B ≤ B') : ∀ {n : Nat} {t : FT n} {v : Value},FRep w B n t v → FRep w' B' n t v
 | 0,_,_,h => h.elim
 | _ + 1,_,_,⟨a,cap,hv,h⟩ => ⟨a,cap,hv,h.up hb hB fun _ _ _ hx => FRep.up hb hB hx⟩
theorem FRow.up {w w' : World} {B B' n : Nat} {a : Option Addr} {l : List (FT n)} (h : FRow w B n a l) (hb : Below B w w') (hB : B ≤ B') : FRow w' B' n a l :=
 RowR.up hb hB (fun _ _ _ hx => FRep.up hb hB hx) h
theorem FRep.shape {w : World} {B n : Nat} {t : FT n} {v : Value} (h : FRep w B n t v) : ∃ k s a l c,v = .agg #[.int .u8 k,.string s,.slice a l c]:=by
 cases n with
 | zero => exact h.elim
 | succ n => obtain ⟨a,c,hv,_⟩:=h; exact ⟨_,_,a,_,c,hv⟩
theorem FRow.at {w : World} {B n : Nat} {a : Option Addr} {l : List (FT n)} (h : FRow w B n a l) (j : Nat) (hj : j < l.length) :
 ∃ b off k s sa sl sc,a = some ⟨b,off,none⟩ ∧ b < B ∧ w.cell? ⟨b,off + j * 3,none⟩ = some (.int .u8 k) ∧ w.cell? ⟨b,off + j * 3 + 1,none⟩ = some (.string s) ∧
  w.cell? ⟨b,off + j * 3 + 2,none⟩ = some (.slice sa sl sc) ∧ FRep w B n l[j] (.agg #[.int .u8 k,.string s,.slice sa sl sc]):=by
 obtain ⟨_,h | ⟨b,off,ha,hb,hc⟩⟩:=h
 ·rw [h] at hj; exact absurd hj (by simp)
 ·obtain ⟨vs,h1,h2,h3⟩:=hc j hj
  obtain ⟨k,s,sa,sl,sc,hv⟩:=h3.shape
  match vs,h1 with
  | [x,y,z],_ =>
   have hv' : x = .int .u8 k ∧ y = .string s ∧ z = .slice sa sl sc:=by simpa using hv
   obtain ⟨rfl,rfl,rfl⟩:=hv'
   exact ⟨b,off,k,s,sa,sl,sc,ha,hb,by have:=h2 0 (by omega); simpa using this,by have:=h2 1 (by omega); simpa using this,by have:=h2 2 (by omega); simpa using this,h3⟩
def Spn.cells (i : Spn) : List Value:=[.int .i64 i.low,.bool i.ls,.int .i64 i.high,.bool i.hs,.bool i.op]
def XRep (w : World) (B m : Nat) : (n : Nat) → XT m n → Value → Prop
 | 0,_,_ => False
 | n
  + 1,t,v => ∃ a1 c1 a2 c2,v = .agg #[.int .u8 t.1,.slice a1 t.2.1.length c1,.slice a2 t.2.2.1.length c2,.int .i64 t.2.2.2.low,.bool t.2.2.2.ls,.int .i64 t.2.2.2.high,.bool t.2.2.2.hs,.bool t.2.2.2.op] ∧
  FRow w B m a1 t.2.1 ∧ RowR w B 8 (XRep w B m n) a2 t.2.2.1
abbrev XRow (w : World) (B m n : Nat) (a : Option Addr) (l : List (XT m n)) : Prop:=RowR w B 8 (XRep w B m n) a l
theorem XRep.up {w w' : World} {B B' m : Nat} (hb : Below B w w') (hB : B ≤ B') : ∀ {n : Nat} {t : XT m n} {v : Value},XRep w B m n t v → XRep w' B' m n t v
 | 0,_,_,h => h.elim
 | _ + 1,_,_,⟨a1,c1,a2,c2,hv,h1,h2⟩ => ⟨a1,c1,a2,c2,hv,h1.up hb hB,h2.up hb hB fun _ _ _ hx => XRep.up hb hB hx⟩
theorem XRow.up {w w' : World} {B B' m n : Nat} {a : Option Addr} {l : List (XT m n)} (h : XRow w B m n a l) (hb : Below B w w') (hB : B ≤ B') : XRow w' B' m n a l :=
 RowR.up hb hB (fun _ _ _ hx => XRep.up hb hB hx) h
theorem XRep.shape {w : World} {B m n : Nat} {t : XT m n} {v : Value} (h : XRep w B m n t v) :
 ∃ k a1 l1 c1 a2 l2 c2 lo ls hi hs op,v = .agg #[.int .u8 k,.slice a1 l1 c1,.slice a2 l2 c2,.int .i64 lo,.bool ls,.int .i64 hi,.bool hs,.bool op]:=by
 cases n with
 | zero => exact h.elim
 | succ n => obtain ⟨a1,c1,a2,c2,hv,_⟩:=h; exact ⟨_,a1,_,c1,a2,_,c2,_,_,_,_,_,hv⟩
theorem XRow.at {w : World} {B m n : Nat} {a : Option Addr} {l : List (XT m n)} (h : XRow w B m n a l) (j : Nat) (hj : j < l.length) :
 ∃ b off k a1 l1 c1 a2 l2 c2 lo ls hi hs op,a = some ⟨b,off,none⟩ ∧ b < B ∧ w.cell? ⟨b,off + j * 8,none⟩ = some (.int .u8 k) ∧ w.cell? ⟨b,off + j * 8 + 1,none⟩ = some (.slice a1 l1 c1) ∧
  w.cell? ⟨b,off + j * 8 + 2,none⟩ = some (.slice a2 l2 c2) ∧ w.cell? ⟨b,off + j * 8 + 3,none⟩ = some (.int .i64 lo) ∧ w.cell? ⟨b,off + j * 8 + 4,none⟩ = some (.bool ls) ∧
  w.cell? ⟨b,off + j * 8 + 5,none⟩ = some (.int .i64 hi) ∧ w.cell? ⟨b,off + j * 8 + 6,none⟩ = some (.bool hs) ∧ w.cell? ⟨b,off + j * 8 + 7,none⟩ = some (.bool op) ∧
  XRep w B m n l[j] (.agg #[.int .u8 k,.slice a1 l1 c1,.slice a2 l2 c2,.int .i64 lo,.bool ls,.int .i64 hi,.bool hs,.bool op]):=by
 obtain ⟨_,h | ⟨b,off,ha,hb,hc⟩⟩:=h
 ·rw [h] at hj; exact absurd hj (by simp)
 ·obtain ⟨vs,h1,h2,h3⟩:=hc j hj
  obtain ⟨k,a1,l1,c1,a2,l2,c2,lo,ls,hi,hs,op,hv⟩:=h3.shape
  match vs,h1 with
  | [v0,v1,v2,v3,v4,v5,v6,v7],_ =>
   have hv' : v0 = .int .u8 k ∧ v1 = .slice a1 l1 c1 ∧ v2 = .slice a2 l2 c2 ∧ v3 = .int .i64 lo ∧ v4 = .bool ls ∧ v5 = .int .i64 hi ∧ v6 = .bool hs ∧ v7 = .bool op:=by simpa using hv
   obtain ⟨rfl,rfl,rfl,rfl,rfl,rfl,rfl,rfl⟩:=hv'
   refine ⟨b,off,k,a1,l1,c1,a2,l2,c2,lo,ls,hi,hs,op,ha,hb,?_,?_,?_,?_,?_,?_,?_,?_,h3⟩
   ·have:=h2 0 (by omega); simpa using this
   ·have:=h2 1 (by omega); simpa using this
   ·have:=h2 2 (by omega); simpa using this
   ·have:=h2 3 (by omega); simpa using this
   ·have:=h2 4 (by omega); simpa using this
   ·have:=h2 5 (by omega); simpa using this
   ·have:=h2 6 (by omega); simpa using this
   ·have:=h2 7 (by omega); simpa using this
def NRep (w : World) (B : Nat) (v : Value) (l : List ByteArray) : Prop :=
 ∃ a cap,v = .slice a l.length cap ∧ l.length ≤ 9223372036854775807 ∧ (l = [] ∨ ∃ b off,a = some ⟨b,off,none⟩ ∧ b < B ∧ ∀ i (h : i < l.length),w.cell? ⟨b,off + i,none⟩ = some (.string l[i]))
theorem NRep.up {w w' : World} {B B' : Nat} {v : Value} {l : List ByteArray} (h : NRep w B v l) (hb : Below B w w') (hB : B ≤ B') : NRep w' B' v l:=by
 obtain ⟨a,cap,hv,hm,h⟩:=h
 refine ⟨a,cap,hv,hm,?_⟩
 rcases h with h | ⟨b,off,ha,hlt,hc⟩
 ·exact .inl h
 ·exact .inr ⟨b,off,ha,by omega,fun i hi => (hb.cell (p:=⟨b,_,none⟩) hlt).trans (hc i hi)⟩
end Go.Proofs.YtockinpjfhhkoaaGreatDoor
