/- What the world must hold (the library's variables); strconv.ParseUint at 62 bits, strconv.FormatUint, in base ten. -/
import Derived.Lib.ItoaMem
import Derived.Test.YtpgdplmndnopbaaGreatDoorZ00
import Derived.Shelf.Abstract
import Derived.WalkKit
import Derived.WalkSpells
import Derived.WalkLawsBesides
import Derived.Lib.Hide
import Derived.Test.YtpgdplmndnopbaaGreatDoorRows
import Derived.StillTailTactics
import Derived.Deep.RegionHeld3
import Derived.Deep.DrawnRows
import Derived.Maps.AppendAt
import Derived.Deep.RegionLaw
import Derived.Deep.AppendLies
import Derived.WalkSmall
import Derived.Deep.QuietTactic
import Derived.BigQuiet
import Derived.LoopTactic
import Derived.ProofKit
import Derived.Deep.Slices
import Derived.Lib.LaidIn
import Derived.Lib.LaidTab
import Derived.LaidLaws
import Derived.Stop.LaidErr
import Derived.HandedShaped
import Derived.Shelf.Vars
import Derived.Lib.SmallJoins
import Derived.SizedLaws
set_option maxRecDepth 100000
set_option maxHeartbeats 16000000
namespace Go.Proofs.YtpgdplmndnopbaaGreatDoor
open Go.RowKit Go.Shelf Go.Sort
def Rdy (w : World) : Prop :=
 (∃ m,w.cell? ⟨0,0,none⟩ = some (.int .i64 m)) ∧ (∃ te pe,w.cell? ⟨1,0,none⟩ = some (.iface te pe)) ∧ (∃ te pe,w.cell? ⟨2,0,none⟩ = some (.iface te pe)) ∧
 ∃ t fz,w.heap[3]? = some (.cells ((Lib.pow10Tab.map fun z => Value.int .u64 z).toArray) t fz)
theorem Rdy.lt {w : World} (h : Rdy w) : 4 ≤ w.heap.size:=by
 obtain ⟨_,_,_,t,fz,h⟩:=h
 have:=(Array.getElem?_eq_some_iff.1 h).1
 omega
theorem Rdy.belowB {w w' : World} {B : Nat} (hB : 4 ≤ B) (h : Rdy w) (hb : Below B w w') : Rdy w':=by
 obtain ⟨⟨m,h1⟩,⟨t2,p2,h2⟩,⟨t3,p3,h3⟩,t,fz,h4⟩:=h
 exact ⟨⟨m,(hb.cell (p:=⟨0,0,none⟩) (show 0 < B by omega)).trans h1⟩,⟨t2,p2,(hb.cell (p:=⟨1,0,none⟩) (show 1 < B by omega)).trans h2⟩,⟨t3,p3,(hb.cell (p:=⟨2,0,none⟩) (show 2 < B by omega)).trans h3⟩,t,fz,(hb.block 3 (by omega)).trans h4⟩
theorem Rdy.below {w w' : World} (h : Rdy w) (hb : Below w.heap.size w w') : Rdy w':=h.belowB h.lt hb
theorem Rdy.tab {w : World} (h : Rdy w) : Lib.TabIs Tryz.prog w "internal/strconv.uint64pow10" .u64 Lib.pow10Tab:=by
 obtain ⟨_,_,_,t,fz,h4⟩:=h
 unfold Lib.TabIs World.var?
 rw [show Program.globalNamed Tryz.prog _ = some 3 from by kernel_rfl]
 simp [h4]
def z5w (l : List UInt8) (u : Nat) (ev : Value) : Prop :=
 match Lib.parseUintM 4611686018427387903 0 l with
 | .ok n => u = n ∧ ev = .nilIface
 | _ => ∃ t p,ev = .iface t p
theorem parse49_any (s : ByteArray) (hne : s.size ≠ 0) (hlim : s.size ≤ 281474976710656) (w : World) (hr : Rdy w) :
 Calls Tryz.prog 150 #[.string s,.int .i64 10,.int .i64 62] w fun e w' => (∃ u ev,e = .returned (.tuple #[.int .u64 (u : Nat),ev]) ∧ z5w s.data.toList u ev) ∧ Below w.heap.size w w':=by
 have hI:=parse58_any s hne (by omega) w
 have hb0 : Below w.heap.size w (Lib.bytesWorld w 5 s):=Lib.bytesWorld_below _ _ _
 generalize Lib.bytesWorld w 5 s = W1 at hI hb0
 have hr1:=hr.below hb0
 rcases hp : Lib.parseUintM 4611686018427387903 0 s.data.toList with n | _ | _
 ·rw [hp] at hI
  have HP : Hid (z5w s.data.toList n .nilIface):=by rw [Hid,z5w,hp]; exact ⟨rfl,rfl⟩
  clear hp
  have HI : Hid (Calls Tryz.prog 173 #[.string s,.int .i64 10,.int .i64 62] w fun e w' => e = .returned (.tuple #[.int .u64 n,.nilIface]) ∧ w' = W1):=hI
  clear hI
  go_enter Tryz.func150,Tryz.ntmps150
  go_wp2_with fail
  refine HI.out.mono ?_
  rintro e w1 ⟨rfl,rfl⟩
  go_wp2_with fail
  go_ret2
  exact ⟨⟨n,_,rfl,HP.out⟩,hb0⟩
 ·rw [hp] at hI
  have HP : Hid (∀ t p,z5w s.data.toList 0 (.iface t p)):=fun t p => by rw [z5w,hp]; exact ⟨t,p,rfl⟩
  clear hp
  have HI : Hid (Calls Tryz.prog 173 #[.string s,.int .i64 10,.int .i64 62] w fun e w' => e = .returned (.tuple #[.int .u64 0,.iface 185 (.int .i64 2)]) ∧ w' = W1):=hI
  clear hI
  obtain ⟨te,pe,hv⟩:=hr1.2.1
  have HE : Hid (Calls Tryz.prog 174 #[.string ⟨#[80,97,114,115,101,85,105,110,116]⟩,.string s,.int .i64 10,.int .i64 62,.iface 185 (.int .i64 2)] W1 fun e w' => ∃ N,e = .returned (.iface 187 (.pointer (some ⟨N,0,none⟩))) ∧ W1.heap.size ≤ N ∧ w'.heap[N]? = some (.cells #[.string ⟨#[80,97,114,115,101,85,105,110,116]⟩,.string s,.iface te pe] 199 (0,0)) ∧ Below W1.heap.size W1 w') :=
   AnyPu.strconv_toError_syntax (ρ:=Tryz.laysPu14_ren) { Tryz.laysPu14 with } ⟨#[80,97,114,115,101,85,105,110,116]⟩ s 10 62 (.iface te pe) W1 hlim hv (.inr ⟨te,pe,rfl⟩)
  clear hv
  go_enter Tryz.func150,Tryz.ntmps150
  go_wp2_with fail
  refine HI.out.mono ?_
  rintro e w1 ⟨rfl,rfl⟩
  go_wp2_with fail
  refine HE.out.mono ?_
  rintro e w2 ⟨N,rfl,_,_,h3⟩
  go_wp2_with fail
  go_ret2
  exact ⟨⟨0,_,rfl,HP.out _ _⟩,hb0.trans (h3.mono hb0.size)⟩
 ·rw [hp] at hI
  have HP : Hid (∀ t p,z5w s.data.toList 4611686018427387903 (.iface t p)):=fun t p => by rw [z5w,hp]; exact ⟨t,p,rfl⟩
  clear hp
  have HI : Hid (Calls Tryz.prog 173 #[.string s,.int .i64 10,.int .i64 62] w fun e w' => e = .returned (.tuple #[.int .u64 4611686018427387903,.iface 185 (.int .i64 1)]) ∧ w' = W1):=hI
  clear hI
  obtain ⟨te,pe,hv⟩:=hr1.2.2.1
  have HE : Hid (Calls Tryz.prog 174 #[.string ⟨#[80,97,114,115,101,85,105,110,116]⟩,.string s,.int .i64 10,.int .i64 62,.iface 185 (.int .i64 1)] W1 fun e w' => ∃ N,e = .returned (.iface 187 (.pointer (some ⟨N,0,none⟩))) ∧ W1.heap.size ≤ N ∧ w'.heap[N]? = some (.cells #[.string ⟨#[80,97,114,115,101,85,105,110,116]⟩,.string s,.iface te pe] 199 (0,0)) ∧ Below W1.heap.size W1 w') :=
   AnyPu.strconv_toError_range (ρ:=Tryz.laysPu14_ren) { Tryz.laysPu14 with } ⟨#[80,97,114,115,101,85,105,110,116]⟩ s 10 62 (.iface te pe) W1 hlim hv (.inr ⟨te,pe,rfl⟩)
  clear hv
  go_enter Tryz.func150,Tryz.ntmps150
  go_wp2_with fail
  refine HI.out.mono ?_
  rintro e w1 ⟨rfl,rfl⟩
  go_wp2_with fail
  refine HE.out.mono ?_
  rintro e w2 ⟨N,rfl,_,_,h3⟩
  go_wp2_with fail
  go_ret2
  exact ⟨⟨4611686018427387903,_,rfl,HP.out _ _⟩,hb0.trans (h3.mono hb0.size)⟩
theorem holds_zero0 (w : World) (T : TypeId) (nd : Nat) (hs : nd ≤ 24) : Holds (fun (b : UInt8) => Value.int .u8 (b.toNat : Int)) (w.alloc (.cells Lib.zeros24 T)) w.heap.size 0 (Array.replicate nd (0 : UInt8)):=fun j hj => by
 have hj' : j < nd:=by simpa using hj
 refine ⟨?_,World.frozen?_alloc_new _ _ _ _⟩
 rw [World.cell?_alloc_new,Lib.zeros24_at _ (by omega),getElem!_pos _ j hj]
 simp
theorem putRow_below (w : World) (o : Obj) (dk : Array UInt8) (k : Nat) : Below w.heap.size w ((putRow (fun (b : UInt8) => Value.int .u8 (b.toNat : Int)) (w.alloc o) w.heap.size 0 dk).drewN k):=by
 have h : ∃ os,putRow (fun (b : UInt8) => Value.int .u8 (b.toNat : Int)) (w.alloc o) w.heap.size 0 dk = grow w os:=by
  rw [alloc_eq_grow]
  obtain ⟨os',_,e⟩:=putRow_grow_new (fun (b : UInt8) => Value.int .u8 (b.toNat : Int)) w #[o] w.heap.size 0 dk (Nat.le_refl _)
  exact ⟨os',by rw [e]⟩
 obtain ⟨os,e⟩:=h
 rw [e]
 refine ⟨rfl,rfl,rfl,?_,?_⟩
 ·simp [grow,World.drewN]
 ·intro i hi
  simp [grow,World.drewN,Array.getElem?_append,hi]
theorem format60_any (u : Nat) (hu : u < 18446744073709551616) (w : World) (hr : Rdy w) :
 Calls Tryz.prog 175 #[.int .u64 u,.int .i64 10] w fun e w' => e = .returned (.string (bsOf (Lib.decDigits u))) ∧ Below w.heap.size w w':=by
 by_cases hs : u < 100
 ·have h100 : (u : Int) < 100:=by omega
  go_enter Tryz.func175,Tryz.ntmps175
  go_wp2_with fail
  refine (Tryz.internal_strconv_small u hs _).mono ?_
  rintro e w' ⟨rfl,rfl⟩
  go_wp2_with fail
  go_ret
  exact ⟨rfl,Below.refl _ _⟩
 ·have hu1 : 1 ≤ u:=by omega
  have hnd20 : Lib.nDigits u ≤ 20:=by have:=Lib.numDigits_eq u hu1 hu; split at this <;> omega
  have hal : Tryz.prog.arrayLen 190 = 24:=by simp [Program.arrayLen,Tryz.underlying190]
  have hsl1 : ∀ W,(Instr.sliceAt 190 (.pointer (some ⟨w.heap.size,0,none⟩)) none (some (.int .i64 (Lib.nDigits u : Int))) none).run Tryz.prog W = .ok (.slice (some ⟨w.heap.size,0,none⟩) (Lib.nDigits u) 24) W:=fun W => by
   rw [run_sliceAt_array_h W 190 ⟨w.heap.size,0,none⟩ (by simp [Program.arrayLen,Program.elem,Tryz.underlying190]) .i64 (Lib.nDigits u : Int) (by omega) (by rw [hal]; omega)]
   go_simp
  have hH0:=holds_zero0 w 190 (Lib.nDigits u) (by omega)
  have hfmt:=Tryz.internal_strconv_formatBase10 w.heap.size 0 24 u (Array.replicate (Lib.nDigits u) 0) (w.alloc (.cells Lib.zeros24 190)) hH0 (by rw [Array.size_replicate]; exact Lib.lt_pow_nDigits u) hu (by rw [Array.size_replicate]; omega)
  rw [Array.size_replicate] at hfmt
  have HH0:=Lib.hid hH0
  have HF:=Lib.hid hfmt
  have htab:=Lib.hid (Lib.tabIs_alloc hr.tab (.cells Lib.zeros24 190))
  clear hH0 hal hfmt
  have h100 : ¬ (u : Int) < 100:=by omega
  go_enter Tryz.func175,Tryz.ntmps175
  go_wp2_with (go_at_call 193; refine (Tryz.internal_strconv_numDigits u hu1 hu _ htab.out).mono ?_; rintro e w' ⟨rfl,rfl⟩)
  refine HF.out.mono ?_
  rintro e w' ⟨rfl,k,v',dk,rfl,hF⟩
  have hcv : (convert 65 9 (.slice (some ⟨w.heap.size,0,none⟩) (Lib.nDigits u) 24)).run Tryz.prog ((putRow (fun (b : UInt8) => Value.int .u8 (b.toNat : Int)) (w.alloc (.cells Lib.zeros24 190)) w.heap.size 0 dk).drewN k) = .ok (.string ⟨(Lib.decDigits u).toArray⟩) ((putRow (fun (b : UInt8) => Value.int .u8 (b.toNat : Int)) (w.alloc (.cells Lib.zeros24 190)) w.heap.size 0 dk).drewN k):=by
   have h:=run_convert_bytes_back (P:=Tryz.prog) ((putRow (fun (b : UInt8) => Value.int .u8 (b.toNat : Int)) (w.alloc (.cells Lib.zeros24 190)) w.heap.size 0 dk).drewN k) 65 9 5 ⟨w.heap.size,0,none⟩ 24 (Lib.decDigits u) Tryz.underlying65 Tryz.underlying5 Tryz.underlying9 (fun j hj => by
    rw [Lib.row_is_numeral hF j hj,Lib.add_plain,World.cell?_drewN]
    exact cell?_putRow (fun (b : UInt8) => Value.int .u8 (b.toNat : Int)) _ w.heap.size 0 _ dk HH0.out (by rw [hF.size,Array.size_replicate]) j (by rw [hF.size]; rw [Lib.decDigits_length] at hj; exact hj))
   rw [Lib.decDigits_length] at h
   exact h
  go_wp2_with fail
  go_ret
  exact ⟨rfl,putRow_below _ _ _ _⟩
theorem format50_any (u : Nat) (hu : u < 18446744073709551616) (w : World) (hr : Rdy w) :
 Calls Tryz.prog 151 #[.int .u64 u,.int .i64 10] w fun e w' => e = .returned (.string (bsOf (Lib.decDigits u))) ∧ Below w.heap.size w w':=by
 go_enter Tryz.func151,Tryz.ntmps151
 go_wp2_with fail
 refine (format60_any u hu w hr).mono ?_
 rintro e w' ⟨rfl,hb⟩
 go_wp2_with fail
 go_ret
 exact ⟨rfl,hb⟩
end Go.Proofs.YtpgdplmndnopbaaGreatDoor
namespace Go.Proofs.YtpgdplmndnopbaaGreatDoor
open Go.RowKit Go.Shelf
theorem z1o {a b : Bool} {w : World} (h : a = b) : (Ending.returned (.bool a) = .returned (.bool b) ∧ w = w):=⟨by rw [h],rfl⟩
theorem z4u {k : IntKind} {a b : Int} {w : World} (h : a = b) : (Ending.returned (.int k a) = .returned (.int k b) ∧ w = w):=⟨by rw [h],rfl⟩
def z4x (r : Int) : Int:=if 97 ≤ r ∧ r ≤ 122 then 2 else if 48 ≤ r ∧ r ≤ 57 then 3 else if r = 32 ∨ r = 9 ∨ r = 10 ∨ r = 13 then 1 else 0
theorem z4k (r : Int) (w : World) : Calls Tryz.prog 61 #[.int .i32 r] w fun e w' => e = .returned (.int .i64 (z4x r)) ∧ w' = w:=by
 go_enter Tryz.func61,Tryz.ntmps61
 go_wp2
 all_goals go_ret
 all_goals (refine z4u ?_; unfold z4x; try omega)
 all_goals (simp only [beq_iff_eq,beq_eq_false_iff_ne,ne_eq] at *; omega)
end Go.Proofs.YtpgdplmndnopbaaGreatDoor
namespace Go.Proofs.YtpgdplmndnopbaaGreatDoor
open Go.RowKit Go.Shelf
attribute [local go_sem ↓] Go.wp_at_zero Go.wp_at_succ
def Tok.cells (t : Tok) : List Value:=[.int .u8 t.kind,.string t.text,.int .i64 t.place]
def Tok.val (t : Tok) : Value:=.agg #[.int .u8 t.kind,.string t.text,.int .i64 t.place]
def z5m : Tok:=⟨0,.empty,0⟩
def TokC (w : World) (b off : Nat) (l : List Tok) : Prop :=
 ∀ i,(h : i < l.length) → w.cell? ⟨b,off + i * 3,none⟩ = some (.int .u8 l[i].kind) ∧ w.cell? ⟨b,off + i * 3 + 1,none⟩ = some (.string l[i].text) ∧ w.cell? ⟨b,off + i * 3 + 2,none⟩ = some (.int .i64 l[i].place)
def Toks (w : World) (B : Nat) (v : Value) (l : List Tok) : Prop :=
 ∃ a cap,v = .slice a l.length cap ∧ l.length ≤ 9223372036854775807 ∧ (l = [] ∨ ∃ b off,a = some ⟨b,off,none⟩ ∧ b < B ∧ TokC w b off l)
def z3x (l : List Tok) : List Value:=l.flatMap Tok.cells
theorem z2n (a b : List Tok) : z3x (a ++ b) = z3x a ++ z3x b:=by simp [z3x]
theorem z6m (s : Tok) : z3x [s] = s.cells:=by simp [z3x]
theorem z4f : ∀ l : List Tok,(z3x l).length = l.length * 3
 | [] => rfl
 | s :: l => by
  have:=z4f l
  show (z3x ([s] ++ l)).length = _
  rw [z2n,List.length_append,this]
  simp [z6m,Tok.cells]; omega
theorem z5o : ∀ (l : List Tok) (i : Nat),(h : i < l.length) → (z3x l)[i * 3]? = some (.int .u8 l[i].kind) ∧ (z3x l)[i * 3 + 1]? = some (.string l[i].text) ∧ (z3x l)[i * 3 + 2]? = some (.int .i64 l[i].place)
 | [],i,h => by simp at h
 | s :: l,0,_ => by simp [z3x,Tok.cells]
 | s :: l,i + 1,h => by
  have:=z5o l i (by simpa using h)
  have h2 : z3x (s :: l) = s.cells ++ z3x l:=by simp [z3x]
  have h3 : s.cells.length = 3:=rfl
  rw [h2,List.getElem?_append_right (by rw [h3]; omega),List.getElem?_append_right (by rw [h3]; omega),List.getElem?_append_right (by rw [h3]; omega),h3]
  rw [show (i + 1) * 3 - 3 = i * 3 by omega,show (i + 1) * 3 + 1 - 3 = i * 3 + 1 by omega,show (i + 1) * 3 + 2 - 3 = i * 3 + 2 by omega]
  simpa using this
def OwnT (w : World) (B : Nat) (v : Value) (l : List Tok) : Prop:=w.ownsRow B 51 3 v l.length (z3x l)
theorem OwnT.shape {w : World} {B : Nat} {v : Value} {l : List Tok} (h : OwnT w B v l) : ∃ a c,v = .slice a l.length c:=by
 rcases h.2 with ⟨rfl,h0⟩ | ⟨g,cap,cur,hv,_⟩
 ·exact ⟨none,0,by rw [h0]⟩
 ·exact ⟨_,_,hv⟩
theorem OwnT.below {w w' : World} {B : Nat} {v : Value} {l : List Tok} (h : OwnT w B v l) (hb : Below w.heap.size w w') : OwnT w' B v l :=
 World.ownsRow.kept h (row:=none) ⟨hb.os,hb.tape,hb.output,hb.size,fun j hj _ => hb.block j hj⟩ (by cases hv : v.ownBlock <;> simp)
theorem OwnT.toks {w : World} {B : Nat} {v : Value} {l : List Tok} (h : OwnT w B v l) (hm : l.length ≤ 9223372036854775807) : Toks w w.heap.size v l:=by
 have h':=h
 obtain ⟨_,hh⟩:=h
 rcases hh with ⟨rfl,h0⟩ | ⟨g,cap,cur,rfl,hg,hb,_,_,_,_⟩
 ·exact ⟨none,0,by rw [h0],hm,.inl (List.eq_nil_of_length_eq_zero h0)⟩
 ·refine ⟨_,cap,rfl,hm,.inr ⟨g,0,rfl,(Array.getElem?_eq_some_iff.1 hb).1,fun i hi => ?_⟩⟩
  have h3:=z5o l i hi
  refine ⟨?_,?_,?_⟩
  ·rw [Nat.zero_add,h'.cellAt _ (by omega)]; exact h3.1
  ·rw [Nat.zero_add,h'.cellAt _ (by omega)]; exact h3.2.1
  ·rw [Nat.zero_add,h'.cellAt _ (by omega)]; exact h3.2.2
theorem OwnT.at {w : World} {B : Nat} {v : Value} {l : List Tok} (h : OwnT w B v l) (h0 : l ≠ []) :
 ∃ g cap,v = .slice (some ⟨g,0,none⟩) l.length cap ∧ B ≤ g ∧ g < w.heap.size ∧ TokC w g 0 l ∧ (∀ j,w.frozen? ⟨g,j,none⟩ = false) ∧
  ∀ j x,w.ownsRow B 51 3 v l.length (z3x l) → (w.setCell ⟨g,j,none⟩ x).ownsRow B 51 3 v l.length ((z3x l).set j x):=by
 have h':=h
 obtain ⟨_,hh⟩:=h
 rcases hh with ⟨_,h0'⟩ | ⟨g,cap,cur,hv,hg,hb,hn,hm,hs,ht⟩
 ·exact absurd (List.eq_nil_of_length_eq_zero h0') h0
 ·subst hv
  refine ⟨g,cap,rfl,hg,(Array.getElem?_eq_some_iff.1 hb).1,?_,fun j => h'.frozenAt _,fun j x ho => (ho.stored j x).1⟩
  intro i hi
  have h3:=z5o l i hi
  refine ⟨?_,?_,?_⟩
  ·rw [Nat.zero_add,World.ownsRow.cellAt h' _ (by omega)]; exact h3.1
  ·rw [Nat.zero_add,World.ownsRow.cellAt h' _ (by omega)]; exact h3.2.1
  ·rw [Nat.zero_add,World.ownsRow.cellAt h' _ (by omega)]; exact h3.2.2
theorem z0x (w : World) (x y z : Value) (t : TypeId) : ∀ j u,[x,y,z][j]? = some u → (w.alloc (.cells #[x,y,z] t)).cell? ((⟨w.heap.size,0,none⟩ : Addr).add j) = some u:=by
 intro j u hj
 match j,hj with
 | 0,hj => simp at hj; subst hj; simp [Addr.add]
 | 1,hj => simp at hj; subst hj; simp [Addr.add]
 | 2,hj => simp at hj; subst hj; simp [Addr.add]
theorem Tryz.info51 : (Tryz.prog.info? 51).map (fun i => (i.zero,i.size,i.bytes)) = some (some (.agg #[.int .u8 0,.string .empty,.int .i64 0]),3,32):=by kernel_rfl
@[local go_sem] theorem eq27 (a d : Int) (b e : ByteArray) (c f : Int) (w : World) : (Op.equalIn 10000 51 (.agg #[.int .u8 a,.string b,.int .i64 c]) (.agg #[.int .u8 d,.string e,.int .i64 f])).run Tryz.prog w = .ok (a == d && (b.toList == e.toList) && c == f) w:=by
 have u3:=Tryz.underlying3
 have a3:=Tryz.isAgg3
 have z3:=Tryz.sizeOf3
 have u5:=Tryz.underlying5
 have a5:=Tryz.isAgg5
 have z5:=Tryz.sizeOf5
 have u9:=Tryz.underlying9
 have a9:=Tryz.isAgg9
 have z9:=Tryz.sizeOf9
 have hS : Tryz.prog.underlying 51 = some (.struct (Tryz.prog.fieldsOf 51)):=by kernel_rfl
 have hp : Tryz.prog.stoodInHeld 51 = false:=by kernel_rfl
 rw [show (10000 : Nat) = 9999 + 1 from rfl,run_equalIn_agg w 9999 51 _ _ hS hp]
 simp only [Program.fieldsOf,Tryz.underlying51]
 go_simp
 by_cases h1 : a = d <;> by_cases h2 : b.toList = e.toList <;> by_cases h3 : c = f <;> simp [h1,h2,h3]
theorem toList_inj {a b : ByteArray} (h : a.toList = b.toList) : a = b:=by
 rw [ByteArray.toList_eq,ByteArray.toList_eq] at h
 cases a; cases b; simp_all
theorem z2p {B : Nat} {a w : World} (h : Below B a w) (n : Nat) : Below B a (w.drewN n):=h.trans ⟨rfl,rfl,rfl,Nat.le_refl _,fun _ _ => rfl⟩
theorem z00 {a b : Bool} (h : a = b) : Ending.returned (.bool a) = .returned (.bool b):=by rw [h]
end Go.Proofs.YtpgdplmndnopbaaGreatDoor
namespace Go.Proofs.YtpgdplmndnopbaaGreatDoor
open Go.ChangeShapes Go.WideShapes Go.ChangeAt Go.RowKit Go.Joins
theorem Tryz.own : ownKnob Tryz.prog.godebug = none:=by kernel_rfl
theorem Tryz.laidOut : laidOutB Tryz.prog = true:=by kernel_rfl
theorem Tryz.cells9 : Tryz.prog.cellsOf 9 = 1:=by kernel_rfl
theorem Tryz.cells160 : Tryz.prog.cellsOf 160 = 1:=by kernel_rfl
theorem Tryz.cells202 : Tryz.prog.cellsOf 202 = 20:=by kernel_rfl
theorem Tryz.cells210 : Tryz.prog.cellsOf 210 = 1:=by kernel_rfl
def laidL : List (String × DataW Unit):=Rows.printDoesRow.laid
noncomputable def z35 (os : Os) : World :=
 let N:=(World.settled Tryz.prog os).heap.size
 let w0:=World.holding Tryz.prog os ⟨#[.cells #[.string ⟨#[118,97,108,117,101,32,111,117,116,32,111,102,32,114,97,110,103,101]⟩] 210,.cells #[.string ⟨#[105,110,118,97,108,105,100,32,115,121,110,116,97,120]⟩] 210],#[],[]⟩
 let put (h : Array Obj) (g : Nat) (cs : Array Value) : Array Obj:=h.modify g fun
  | .cells _ t frozen => .cells cs t frozen
  | o => o
 let tab8 (zs : List Int) : Array Value:=(zs.map (Value.int .u8)).toArray
 let h0:=put (put w0.heap 1 #[.iface 208 (.pointer (some ⟨N + 1,0,none⟩))]) 2 #[.iface 208 (.pointer (some ⟨N,0,none⟩))]
 let h1:=put h0 3 (Lib.pow10Tab.map (Value.int .u64)).toArray
 let h2:=put h1 4 (tab8 [0,1,28,2,29,14,24,3,30,22,20,15,25,17,4,8,31,27,13,23,21,19,16,7,26,12,18,6,11,5,10,9])
 let h3:=put h2 5 (tab8 [0,1,56,2,57,49,28,3,61,58,42,50,38,29,17,4,62,47,59,36,45,43,51,22,53,39,33,30,24,18,12,5,63,55,48,27,60,41,37,16,46,35,44,21,52,32,23,11,54,26,40,15,34,20,31,10,25,14,19,9,13,8,7,6])
 { w0 with heap:=h3 }
noncomputable abbrev N0 : Nat:=(World.settled Tryz.prog default).heap.size
theorem laid_in (os : Os) (args : Array Value) : Go.LaidIn Tryz.prog ((z35 os).forCall (fun _ _ => 0) ⟨#[],args,[]⟩).memory laidL [4,5,3,2,N0,1,N0 + 1] :=
 Go.LaidIn.of_run [4,5,3,2,N0,1,N0 + 1] 10 (by kernel_rfl) (by kernel_rfl) (by kernel_rfl) (by kernel_rfl)
theorem laid_met (os : Os) (args : Array Value) : laidMet Tryz.prog laidL ((z35 os).forCall (fun _ _ => 0) ⟨#[],args,[]⟩).memory:=(laid_in os args).met
theorem Tryz.star : "*" ++ "errors.errorString" = "*errors.errorString":=by decide
theorem Tryz.row110 (u : TypeId) (h : Tryz.prog.typeName? 3 u = some "*errors.errorString") : u = 208 :=
 typeName_ptr_named (nm:="errors.errorString") (by rw [Tryz.star]; kernel_rfl) (by kernel_rfl) (by decide) u (by rw [Tryz.star]; exact h)
theorem z57 {P : Program} {W : World} {n : String} {g : Nat} {cs : Array Value} (hg : P.globalNamed n = some g) (h : W.var? P n = some cs) : ∃ t fz,W.heap[g]? = some (.cells cs t fz):=by
 unfold World.var? at h
 rw [hg,Option.bind_some] at h
 cases hh : W.heap[g]? with
 | none => rw [hh] at h; cases h
 | some o => cases o with
  | cells c t fz =>
   rw [hh] at h
   simp only [Option.some.injEq] at h
   subst h
   exact ⟨t,fz,rfl⟩
  | _ => rw [hh] at h; simp at h
theorem rdy_of {W : World} (hL : laidMet Tryz.prog laidL W) (hsh : W.ShapedOpen Tryz.prog) : Rdy W:=by
 have h1:=hL.tail.tail
 have ht : Lib.TabIs Tryz.prog W "internal/strconv.uint64pow10" .u64 Lib.pow10Tab :=
  Lib.tabIs_of_head (g:=3) (t:=202) (e:=160) (n:=20) (by kernel_rfl) (by kernel_rfl) Tryz.underlying202 Tryz.underlying160 Tryz.cells160 Tryz.cells202 h1
 obtain ⟨a0,s0,hv0,_⟩:=laid_sentinel (g:=2) (ti:=147) (tp:=208) (te:=210) (ts:=9) h1.tail (by kernel_rfl) (by kernel_rfl) Tryz.underlying147 Tryz.row110 Tryz.underlying208 Tryz.underlying210 rfl rfl Tryz.underlying9 Tryz.cells210 Tryz.cells9
 obtain ⟨a1,s1,hv1,_⟩:=laid_sentinel (g:=1) (ti:=147) (tp:=208) (te:=210) (ts:=9) h1.tail.tail (by kernel_rfl) (by kernel_rfl) Tryz.underlying147 Tryz.row110 Tryz.underlying208 Tryz.underlying210 rfl rfl Tryz.underlying9 Tryz.cells210 Tryz.cells9
 obtain ⟨t0,f0,h2⟩:=z57 (g:=2) (by kernel_rfl) hv0
 obtain ⟨t1,f1,h3⟩:=z57 (g:=1) (by kernel_rfl) hv1
 obtain ⟨t2,f2,h4⟩:=z57 (g:=3) (by kernel_rfl) ht
 exact ⟨cell_of_shapedOpen_int (g:=0) (t:=3) (zero:=#[.int .i64 0]) hsh (of_decide_eq_true (by kernel_rfl)) (by kernel_rfl) rfl (by kernel_rfl) (by kernel_rfl) Tryz.underlying3,
  ⟨208,.pointer (some a1),Lib.cell_of_heap h3 0⟩,⟨208,.pointer (some a0),Lib.cell_of_heap h2 0⟩,t2,f2,h4⟩
theorem z5h {H : Type} {enc : TypeId × Value → H} {P : Program} {W W' : World} (hl : laidOutB P = true) (hb : Below W.heap.size W W') :
 ∀ {ts : List TypeId} {vs : List Value} {ds : List (DataW H)} {ps : List MemPlace},(∀ t ∈ ts,P.readableRec t = true ∧ t < P.types.size) → DataW.TrodAll enc P W 0 (fun _ => true) true ts vs ds ps →
  (∀ x ∈ ps,x.block < W.heap.size) → DataW.TrodAll enc P W' 0 (fun b => decide (b < W.heap.size)) true ts vs ds ps
 | [],[],[],_,_,h,_ => h
 | t :: ts,v :: vs,d :: ds,ps,hr,⟨p,q,h1,h2,e⟩,hlt =>
  ⟨p,q,Below.trod hl (hr t (by simp)).1 (hr t (by simp)).2 h1 hb (fun x hx => hlt x (by rw [e]; exact List.mem_append_left _ hx)),
   z5h hl hb (fun t' ht' => hr t' (by simp [ht'])) h2 (fun x hx => hlt x (by rw [e]; exact List.mem_append_right _ hx)),e⟩
theorem law_post {H : Type} {enc : TypeId × Value → H} {P : Program} {f : Func} {s : ChangeSpec} {apart : Bool} {W W' : World} {args : Array Value} {ds : List (DataW H)} {before : List MemPlace} {tb : TypeId}
 (hl : laidOutB P = true) (hr : ∀ t ∈ f.params.toList,P.readableRec t = true ∧ t < P.types.size) (hsv : s.vars = []) (hrt : f.resultTypes = #[tb]) (htb : P.underlying tb = some .bool)
 (hW : DataW.Whole enc P f.params.toList s.vars apart W args.toList ds [] before)
 (hspec : s.fn H (ds ++ []) = { results:=[.lit (.bool true)],args:=ds }) (hb : Below W.heap.size W W') :
 s.post enc P f apart true false false W args (.bool true) W':=by
 have hlt:=hW.lt
 have hW':=hW
 obtain ⟨p,q,hA,hV,rfl,_,_⟩:=hW'
 rw [hsv] at hV
 obtain ⟨_,rfl⟩:=trodVars_none hV
 refine ⟨ds,[],_,[],p,[],hW,?_,?_,?_,hb.frame _,fun h => by cases h⟩
 ·rw [hspec,hrt]
  exact trodAll_mk1 (shut_bool htb true)
 ·rw [hspec]
  exact z5h hl hb hr hA (fun x hx => hlt x (by simpa using hx))
 ·rw [hspec,hsv]
  exact rfl
section
variable {H : Type} {enc : TypeId × Value → H}
theorem handed_laid {a : Assume} {C : Checked} {os : Os} {f : FuncId} {fn : Func} {s : ChangeSpec} {conds : List PathCond} {apart fresh handsOn again : Bool} {X : World → Array Value → Prop}
 (hX : ∀ (w w' : World) (args : Array Value),w.heap = w'.heap → X w args → X w' args)
 (own : ownKnob C.prog.godebug = none) (started : os.Started) (noInit : C.prog.inits.idxOf? f = none) (hfn : C.prog.funcs[f]? = some fn)
 (witness : ∃ (w : World) (tape : Tape) (i : Input),w.os = os ∧ (w.forCall tape i).Shaped C.prog ∧ i.vars = [] ∧ Input.okWide C.prog (w.forCall tape i) .any w.heap.size f i ∧
  ((s.pre enc C.prog fn conds apart (w.forCall tape i).memory i.args ∧ X (w.forCall tape i).memory i.args) ∧ sizedMet enc C.prog fn (OpenSpec.ofChange s) apart (w.forCall tape i).memory i.args) ∧ a.holds C.prog (lone (Frame.enter C.prog f i.args .normal) [] (w.forCall tape i)))
 (contract : ∀ (W : World) (base : Nat) (args : Array Value) (ds gs : List (DataW H)) (before : List MemPlace),
  (∀ (j : Nat) t v,fn.params[j]? = some t → args[j]? = some v → Value.okWide C.prog W .any base t v) →
  DataW.Whole enc C.prog fn.params.toList s.vars apart W args.toList ds gs before →
  (DataW.weightsEach C.prog (fn.params.toList ++ s.plain.varTypes C.prog) (ds ++ gs)).all (· ≤ reachBytes) = true → X W args →
  W.ShapedOpen C.prog →
  Calls C.prog f args W fun e W' => ∃ v,e = .returned v ∧ s.post enc C.prog fn apart fresh handsOn again W args v W') :
 ReturnsInHanded a C os f .any (fun w args => (s.pre enc C.prog fn conds apart w args ∧ X w args) ∧ sizedMet enc C.prog fn (OpenSpec.ofChange s) apart w args) (s.post enc C.prog fn apart fresh handsOn again):=by
 refine returnsInHanded_of_calls own started noInit witness ?_
 intro w tape i _ hsh _ hok hpre hholds
 obtain ⟨_,_,_,fn',hfn',_,_,_,_,hval⟩:=hok
 have e : fn' = fn:=Option.some.inj (hfn'.symm.trans hfn)
 subst e
 obtain ⟨⟨⟨ds,gs,before,hw,hc⟩,hx⟩,hz⟩:=hpre
 have hw':=DataW.Whole.of_heap (w':=w.forCall tape i) (by rfl) hw
 refine (contract (w.forCall tape i) w.heap.size i.args ds gs before hval hw' (hz.weights hw) (hX _ _ _ (by rfl) hx) hsh).mono fun e W' ⟨v,he,hp⟩ => ?_
 subst he
 exact ChangeSpec.post_blind hp
theorem witness_laid {f : FuncId} {fn : Func} {s : ChangeSpec} {conds : List PathCond} {apart : Bool} (os : Os) (args : Array Value) (fuel : Nat)
 (hv : ((z35 os).forCall (fun _ _ => 0) ⟨#[],args,[]⟩).variablesRefB Tryz.checked.prog = true)
 (hr : (((z35 os).forCall (fun _ _ => 0) ⟨#[],args,[]⟩).heap.toList.drop Tryz.checked.prog.globals.size).take ((begin Tryz.checked.prog (fun _ _ => 0) default).world.heap.size - Tryz.checked.prog.globals.size) =
  (begin Tryz.checked.prog (fun _ _ => 0) default).world.heap.toList.drop Tryz.checked.prog.globals.size)
 (hok : Input.okWideB Tryz.checked.prog ((z35 os).forCall (fun _ _ => 0) ⟨#[],args,[]⟩) f ⟨#[],args,[]⟩ = true)
 (hpre : s.preB enc Tryz.checked.prog fn conds apart ((z35 os).forCall (fun _ _ => 0) ⟨#[],args,[]⟩).memory args fuel = true)
 (hsz : s.sizedB enc Tryz.checked.prog fn apart ((z35 os).forCall (fun _ _ => 0) ⟨#[],args,[]⟩).memory args fuel = true) :
 ∃ (w : World) (tape : Tape) (i : Input),w.os = os ∧ (w.forCall tape i).Shaped Tryz.checked.prog ∧ i.vars = [] ∧ Input.okWide Tryz.checked.prog (w.forCall tape i) .any w.heap.size f i ∧
  ((s.pre enc Tryz.checked.prog fn conds apart (w.forCall tape i).memory i.args ∧ laidMet Tryz.prog laidL (w.forCall tape i).memory) ∧ sizedMet enc Tryz.checked.prog fn (OpenSpec.ofChange s) apart (w.forCall tape i).memory i.args) ∧ ({} : Assume).holds Tryz.checked.prog (lone (Frame.enter Tryz.checked.prog f i.args .normal) [] (w.forCall tape i)) :=
 ⟨z35 os,fun _ _ => 0,⟨#[],args,[]⟩,rfl,World.shaped_of_RefB hv hr,(Input.okWide_of_okWideB (base:=0) hok).1,(Input.okWide_of_okWideB hok).2,⟨⟨ChangeSpec.pre_of_preB hpre,laid_met os args⟩,sizedMet_of_sizedB hsz⟩,by
  simp only [Assume.holds]
  exact ⟨by simp,by simp,fun _ => Modest.zero,by simp,by simp⟩⟩
end
end Go.Proofs.YtpgdplmndnopbaaGreatDoor
namespace Go.Proofs.YtpgdplmndnopbaaGreatDoor
open Go.RowKit Go.Shelf
theorem z2k (s : ByteArray) (k : Nat) (h : k < s.size) : s[k]'h = s.data.toList[k]'(by simpa using h):=by simp; rfl
theorem z1j (s : ByteArray) : s.data.toList.length = s.size:=by simp
def z41 (l : List UInt8) : Bool:=decide (1 ≤ l.length) && decide (l.length ≤ 8) && (l.head?.map z3g == some true) && (l.drop 1).all z0h
def z4s (l : List UInt8) : Bool:=[[124],[124,124],[38],[38,38],[59],[43],[60],[62],[95],[91],[93],[40],[41],[44],[33],[123],[125]].contains l
def rowN (l : List UInt8) : Nat:=(z1f l).length
def z3f (l : List UInt8) : Bool:=z41 l && l != [116,114,117,101] && l != [102,97,108,115,101] && l != [111,111]
end Go.Proofs.YtpgdplmndnopbaaGreatDoor
namespace Go.Proofs.YtpgdplmndnopbaaGreatDoor
open Go.RowKit
def FT : Nat → Type
 | 0 => Empty
 | n + 1 => Int × ByteArray × List (FT n)
structure Spn where
 low : Int
 ls : Bool
 high : Int
 hs : Bool
 op : Bool
 deriving DecidableEq
def XT (m : Nat) : Nat → Type
 | 0 => Empty
 | n + 1 => Int × List (FT m) × List (XT m n) × Spn
def allF (so : Int → ByteArray → Nat → Bool) : (n : Nat) → FT n → Bool
 | 0,_ => true
 | n + 1,t => so t.1 t.2.1 t.2.2.length && t.2.2.all (allF so n)
def z16 (k : Int) : Nat:=if k = 4 then 1 else if k = 5 ∨ k = 6 then 2 else 0
def z07 (k : Int) (s : ByteArray) (l : Nat) : Bool:=decide (1 ≤ k) && decide (k ≤ 6) && (l == z16 k) && (decide (s.size = 0) || k == 3)
def inN (s : ByteArray) (names : List ByteArray) : Bool:=names.any fun x => s.toList == x.toList
def z1n (names : List ByteArray) (k : Int) (s : ByteArray) (_ : Nat) : Bool:=k != 3 || inN s names
def z2e {α : Type} (f : α → Int) (a : Int) (l : List α) : Int:=l.foldl (fun acc x => wrap64 (acc + f x)) a
theorem z3i {α : Type} (f : α → Int) (a : Int) (l : List α) (k : Nat) (h : k < l.length) : z2e f a (l.take (k + 1)) = wrap64 (z2e f a (l.take k) + f l[k]):=by
 unfold z2e
 rw [List.take_succ_eq_append_getElem h,List.foldl_append]
 rfl
theorem z6l {α : Type} (f : α → Int) (a : Int) (l : List α) : z2e f a (l.take l.length) = z2e f a l:=by rw [List.take_length]
def cntF : (n : Nat) → FT n → Int
 | 0,_ => 1
 | n + 1,t => z2e (cntF n) 1 t.2.2
def fmsC (n : Nat) (l : List (FT n)) : Int:=z2e (cntF n) 0 l
def z2l (seen : List ByteArray) : List ByteArray → Bool
 | [] => true
 | x :: r => !inN x seen && z3f x.data.toList && z2l (x :: seen) r
def z15 (l : List ByteArray) : Int:=if decide (8 < l.length) || !z2l [] l then 2 else 0
def z4h (n : Int) : Bool:=decide (0 ≤ n) && decide (n < 288230376151711744)
def ivR (i : Spn) : Int :=
 if !z4h i.low || !z4h i.high || (i.op && (i.high != 0 || i.hs)) then 8
 else if !i.op && (decide (i.high < i.low) || (i.low == i.high && (i.ls || i.hs))) then 162 else 0
def allX {m : Nat} (so : Int → List (FT m) → Nat → Spn → Bool) : (n : Nat) → XT m n → Bool
 | 0,_ => true
 | n + 1,t => so t.1 t.2.1 t.2.2.1.length t.2.2.2 && t.2.2.1.all (allX so n)
def noSpan : Spn:=⟨0,false,0,false,false⟩
def z1h (k : Int) : Nat:=if k = 5 ∨ k = 6 then 1 else if k = 2 ∨ k = 3 ∨ k = 4 then 2 else 0
def z04 {m : Nat} (k : Int) (is : List (FT m)) (l : Nat) (i : Spn) : Bool :=
 decide (1 ≤ k) && decide (k ≤ 6) && (l == z1h k) && !(k == 6 && ivR i == 8) && !(k != 6 && i != noSpan) && (if k = 1 then (is.length == 1) && is.all (allF z07 m) else is.length == 0)
def cntX {m : Nat} (one : Int → List (FT m) → Int) : (n : Nat) → XT m n → Int
 | 0,_ => 1
 | n + 1,t => z2e (cntX one n) (one t.1 t.2.1) t.2.2.1
def oneX {m : Nat} (k : Int) (is : List (FT m)) : Int:=if k = 1 then fmsC m is else 1
def z2v {m : Nat} (n : Nat) (x : XT m n) : Int:=cntX oneX n x
def z28 {m : Nat} (names : List ByteArray) (_ : Int) (is : List (FT m)) (_ : Nat) (_ : Spn) : Bool:=is.all (allF (z1n names) m)
def z49 {m : Nat} (k : Int) (_ : List (FT m)) (_ : Nat) (i : Spn) : Bool:=k != 6 || ivR i == 0
def z2o {m : Nat} (names : List ByteArray) (n : Nat) (x : XT m n) : Int :=
 if z15 names ≠ 0 then 2 else if allX z04 n x = false then 8 else if 64 < z2v n x then 160 else if allX (z28 names) n x = false then 161 else if allX z49 n x = false then 162 else 0
def szL {α : Type} (f : α → Int → Int) (most : Int) : List α → Int → Int
 | [],n => n
 | x :: r,n => if n ≤ most then szL f most r (wrap64 (n + f x (wrap64 (most - n)))) else n
theorem szL_drop {α : Type} (f : α → Int → Int) (most : Int) (l : List α) (k : Nat) (n : Int) (h : k < l.length) (hn : n ≤ most) : szL f most (l.drop k) n = szL f most (l.drop (k + 1)) (wrap64 (n + f l[k] (wrap64 (most - n)))):=by
 rw [List.drop_eq_getElem_cons h,szL,if_pos hn]
theorem szL_stop {α : Type} (f : α → Int → Int) (most : Int) (l : List α) (n : Int) (hn : ¬ n ≤ most) : szL f most l n = n:=by
 cases l with
 | nil => rfl
 | cons x r => rw [szL,if_neg hn]
end Go.Proofs.YtpgdplmndnopbaaGreatDoor
namespace Go.Proofs.YtpgdplmndnopbaaGreatDoor
open Go.RowKit
def RowR (w : World) (B C : Nat) {α : Type} (R : α → Value → Prop) (a : Option Addr) (l : List α) : Prop :=
 l.length ≤ 9223372036854775807 ∧ (l = [] ∨ ∃ b off,a = some ⟨b,off,none⟩ ∧ b < B ∧
  ∀ i (h : i < l.length),∃ vs : List Value,vs.length = C ∧ (∀ j,j < C → w.cell? ⟨b,off + i * C + j,none⟩ = vs[j]?) ∧ R l[i] (.agg vs.toArray))
theorem RowR.up {w w' : World} {B B' C : Nat} {α : Type} {R R' : α → Value → Prop} {a : Option Addr} {l : List α} (hb : Below B w w') (hB : B ≤ B') (hR : ∀ x ∈ l,∀ v,R x v → R' x v) (h : RowR w B C R a l) : RowR w' B' C R' a l:=by
 obtain ⟨hm,h⟩:=h
 refine ⟨hm,?_⟩
 rcases h with h | ⟨b,off,ha,hlt,hc⟩
 ·exact .inl h
 ·refine .inr ⟨b,off,ha,by omega,fun i hi => ?_⟩
  obtain ⟨vs,h1,h2,h3⟩:=hc i hi
  exact ⟨vs,h1,fun j hj => (hb.cell (p:=⟨b,_,none⟩) hlt).trans (h2 j hj),hR _ (List.getElem_mem _) _ h3⟩
def FRep (w : World) (B : Nat) : (n : Nat) → FT n → Value → Prop
 | 0,_,_ => False
 | n + 1,t,v => ∃ a cap,v = .agg #[.int .u8 t.1,.string t.2.1,.slice a t.2.2.length cap] ∧ RowR w B 3 (FRep w B n) a t.2.2
abbrev FRow (w : World) (B n : Nat) (a : Option Addr) (l : List (FT n)) : Prop:=RowR w B 3 (FRep w B n) a l
theorem FRep.up {w w' : World} {B B' : Nat} (hb : Below B w w') (hB : B ≤ B') : ∀ {n : Nat} {t : FT n} {v : Value},FRep w B n t v → FRep w' B' n t v
 | 0,_,_,h => h.elim
 | _ + 1,_,_,⟨a,cap,hv,h⟩ => ⟨a,cap,hv,h.up hb hB fun _ _ _ hx => FRep.up hb hB hx⟩
theorem FRow.up {w w' : World} {B B' n : Nat} {a : Option Addr} {l : List (FT n)} (h : FRow w B n a l) (hb : Below B w w') (hB : B ≤ B') : FRow w' B' n a l :=
 RowR.up hb hB (fun _ _ _ hx => FRep.up hb hB hx) h
theorem FRep.shape {w : World} {B n : Nat} {t : FT n} {v : Value} (h : FRep w B n t v) : ∃ k s a l c,v = .agg #[.int .u8 k,.string s,.slice a l c]:=by
 cases n with
 | zero => exact h.elim
 | succ n => obtain ⟨a,c,hv,_⟩:=h; exact ⟨_,_,a,_,c,hv⟩
theorem FRow.at {w : World} {B n : Nat} {a : Option Addr} {l : List (FT n)} (h : FRow w B n a l) (j : Nat) (hj : j < l.length) :
 ∃ b off k s sa sl sc,a = some ⟨b,off,none⟩ ∧ b < B ∧ w.cell? ⟨b,off + j * 3,none⟩ = some (.int .u8 k) ∧ w.cell? ⟨b,off + j * 3 + 1,none⟩ = some (.string s) ∧
  w.cell? ⟨b,off + j * 3 + 2,none⟩ = some (.slice sa sl sc) ∧ FRep w B n l[j] (.agg #[.int .u8 k,.string s,.slice sa sl sc]):=by
 obtain ⟨_,h | ⟨b,off,ha,hb,hc⟩⟩:=h
 ·rw [h] at hj; exact absurd hj (by simp)
 ·obtain ⟨vs,h1,h2,h3⟩:=hc j hj
  obtain ⟨k,s,sa,sl,sc,hv⟩:=h3.shape
  match vs,h1 with
  | [x,y,z],_ =>
   have hv' : x = .int .u8 k ∧ y = .string s ∧ z = .slice sa sl sc:=by simpa using hv
   obtain ⟨rfl,rfl,rfl⟩:=hv'
   exact ⟨b,off,k,s,sa,sl,sc,ha,hb,by have:=h2 0 (by omega); simp,by have:=h2 1 (by omega); simp,by have:=h2 2 (by omega); simp,h3⟩
def XRep (w : World) (B m : Nat) : (n : Nat) → XT m n → Value → Prop
 | 0,_,_ => False
 | n
  + 1,t,v => ∃ a1 c1 a2 c2,v = .agg #[.int .u8 t.1,.slice a1 t.2.1.length c1,.slice a2 t.2.2.1.length c2,.int .i64 t.2.2.2.low,.bool t.2.2.2.ls,.int .i64 t.2.2.2.high,.bool t.2.2.2.hs,.bool t.2.2.2.op] ∧
  FRow w B m a1 t.2.1 ∧ RowR w B 8 (XRep w B m n) a2 t.2.2.1
abbrev XRow (w : World) (B m n : Nat) (a : Option Addr) (l : List (XT m n)) : Prop:=RowR w B 8 (XRep w B m n) a l
theorem XRep.up {w w' : World} {B B' m : Nat} (hb : Below B w w') (hB : B ≤ B') : ∀ {n : Nat} {t : XT m n} {v : Value},XRep w B m n t v → XRep w' B' m n t v
 | 0,_,_,h => h.elim
 | _ + 1,_,_,⟨a1,c1,a2,c2,hv,h1,h2⟩ => ⟨a1,c1,a2,c2,hv,h1.up hb hB,h2.up hb hB fun _ _ _ hx => XRep.up hb hB hx⟩
theorem XRow.up {w w' : World} {B B' m n : Nat} {a : Option Addr} {l : List (XT m n)} (h : XRow w B m n a l) (hb : Below B w w') (hB : B ≤ B') : XRow w' B' m n a l :=
 RowR.up hb hB (fun _ _ _ hx => XRep.up hb hB hx) h
theorem XRep.shape {w : World} {B m n : Nat} {t : XT m n} {v : Value} (h : XRep w B m n t v) :
 ∃ k a1 l1 c1 a2 l2 c2 lo ls hi hs op,v = .agg #[.int .u8 k,.slice a1 l1 c1,.slice a2 l2 c2,.int .i64 lo,.bool ls,.int .i64 hi,.bool hs,.bool op]:=by
 cases n with
 | zero => exact h.elim
 | succ n => obtain ⟨a1,c1,a2,c2,hv,_⟩:=h; exact ⟨_,a1,_,c1,a2,_,c2,_,_,_,_,_,hv⟩
theorem XRow.at {w : World} {B m n : Nat} {a : Option Addr} {l : List (XT m n)} (h : XRow w B m n a l) (j : Nat) (hj : j < l.length) :
 ∃ b off k a1 l1 c1 a2 l2 c2 lo ls hi hs op,a = some ⟨b,off,none⟩ ∧ b < B ∧ w.cell? ⟨b,off + j * 8,none⟩ = some (.int .u8 k) ∧ w.cell? ⟨b,off + j * 8 + 1,none⟩ = some (.slice a1 l1 c1) ∧
  w.cell? ⟨b,off + j * 8 + 2,none⟩ = some (.slice a2 l2 c2) ∧ w.cell? ⟨b,off + j * 8 + 3,none⟩ = some (.int .i64 lo) ∧ w.cell? ⟨b,off + j * 8 + 4,none⟩ = some (.bool ls) ∧
  w.cell? ⟨b,off + j * 8 + 5,none⟩ = some (.int .i64 hi) ∧ w.cell? ⟨b,off + j * 8 + 6,none⟩ = some (.bool hs) ∧ w.cell? ⟨b,off + j * 8 + 7,none⟩ = some (.bool op) ∧
  XRep w B m n l[j] (.agg #[.int .u8 k,.slice a1 l1 c1,.slice a2 l2 c2,.int .i64 lo,.bool ls,.int .i64 hi,.bool hs,.bool op]):=by
 obtain ⟨_,h | ⟨b,off,ha,hb,hc⟩⟩:=h
 ·rw [h] at hj; exact absurd hj (by simp)
 ·obtain ⟨vs,h1,h2,h3⟩:=hc j hj
  obtain ⟨k,a1,l1,c1,a2,l2,c2,lo,ls,hi,hs,op,hv⟩:=h3.shape
  match vs,h1 with
  | [v0,v1,v2,v3,v4,v5,v6,v7],_ =>
   have hv' : v0 = .int .u8 k ∧ v1 = .slice a1 l1 c1 ∧ v2 = .slice a2 l2 c2 ∧ v3 = .int .i64 lo ∧ v4 = .bool ls ∧ v5 = .int .i64 hi ∧ v6 = .bool hs ∧ v7 = .bool op:=by simpa using hv
   obtain ⟨rfl,rfl,rfl,rfl,rfl,rfl,rfl,rfl⟩:=hv'
   refine ⟨b,off,k,a1,l1,c1,a2,l2,c2,lo,ls,hi,hs,op,ha,hb,?_,?_,?_,?_,?_,?_,?_,?_,h3⟩
   ·have:=h2 0 (by omega); simp
   ·have:=h2 1 (by omega); simp
   ·have:=h2 2 (by omega); simp
   ·have:=h2 3 (by omega); simp
   ·have:=h2 4 (by omega); simp
   ·have:=h2 5 (by omega); simp
   ·have:=h2 6 (by omega); simp
   ·have:=h2 7 (by omega); simp
def NRep (w : World) (B : Nat) (v : Value) (l : List ByteArray) : Prop :=
 ∃ a cap,v = .slice a l.length cap ∧ l.length ≤ 9223372036854775807 ∧ (l = [] ∨ ∃ b off,a = some ⟨b,off,none⟩ ∧ b < B ∧ ∀ i (h : i < l.length),w.cell? ⟨b,off + i,none⟩ = some (.string l[i]))
theorem NRep.up {w w' : World} {B B' : Nat} {v : Value} {l : List ByteArray} (h : NRep w B v l) (hb : Below B w w') (hB : B ≤ B') : NRep w' B' v l:=by
 obtain ⟨a,cap,hv,hm,h⟩:=h
 refine ⟨a,cap,hv,hm,?_⟩
 rcases h with h | ⟨b,off,ha,hlt,hc⟩
 ·exact .inl h
 ·exact .inr ⟨b,off,ha,by omega,fun i hi => (hb.cell (p:=⟨b,_,none⟩) hlt).trans (hc i hi)⟩
end Go.Proofs.YtpgdplmndnopbaaGreatDoor
namespace Go.Proofs.YtpgdplmndnopbaaGreatDoor
open Go.ChangeShapes Go.WideShapes Go.ChangeAt Go.RowKit Go.Joins
section
variable {H : Type} {enc : TypeId × Value → H} {w : World} {base : Nat} {spare : Nat → Bool} {held : Bool}
theorem z58 {P : Program} {e : TypeId} : ∀ {l : List (DataW H)} {d : DataW H},d ∈ l → ∀ n ∈ d.weights P e,n ∈ DataW.weightsAll P e l
 | d' :: r,d,hd,n,hn => by
  simp only [DataW.weightsAll,List.mem_append]
  rcases List.mem_cons.1 hd with rfl | h
  ·exact Or.inl hn
  ·exact Or.inr (z58 h n hn)
theorem slice_readW {P : Program} {t e : TypeId} {C fuel : Nat} {cs : List Value} {x : DataW H × List MemPlace}
 (ht : P.underlying t = some (.slice e)) (hC : P.cellsOf e = C) (hC0 : 0 < C) (h : DataW.trod enc P w base spare held fuel t cs = some x) :
 ∃ a len cap,cs = [.slice a len cap] ∧ len ≤ 9223372036854775807 ∧ (len = 0 ∨ ∃ b off,a = some ⟨b,off,none⟩ ∧ b < w.heap.size ∧
  ∀ i,i < len → ∃ cs' y,cs'.length = C ∧ (∀ j,j < C → w.cell? ⟨b,off + i * C + j,none⟩ = cs'[j]?) ∧ DataW.trod enc P w base spare held (fuel - 1) e cs' = some y ∧ ∀ n ∈ y.1.weights P e,n ∈ x.1.weights P t):=by
 rcases DataW.trod_slice ht h with ⟨rfl,_⟩ | ⟨a,len,cap,elems,rest,n,rfl,rfl,hx,_,hl,hm,hel,hat,_⟩
 ·exact ⟨none,0,0,rfl,by omega,.inl rfl⟩
 ·have hml : cap ≤ 9223372036854775807:=hm
  have hd : x.1 = .slice (elems.map (·.1)) (rest.map (·.1)):=by rw [hx]
  refine ⟨some a,len,cap,rfl,by omega,?_⟩
  by_cases h0 : len = 0
  ·exact .inl h0
  ·have key : ∀ i,i < len → ∃ cs' y,cs'.length = C ∧ (∀ j,j < C → w.cell? (a.add (i * C + j)) = cs'[j]?) ∧ DataW.trod enc P w base spare held n e cs' = some y ∧ ∀ n ∈ y.1.weights P e,n ∈ x.1.weights P t:=by
    intro i hi
    have h1:=hat i hi
    rw [hC,List.getElem?_eq_getElem (by omega)] at h1
    obtain ⟨cs',h2,h3⟩:=Option.bind_eq_some_iff.1 h1
    obtain ⟨_,h4,h5⟩:=World.cells?_some h2
    refine ⟨cs',_,h4,fun j hj => by rw [← Go.Deep.add_add]; exact h5 j hj,h3,fun n hn => ?_⟩
    rw [hd]
    simp only [DataW.weights,ht,List.mem_cons,List.mem_append]
    exact .inr (.inl (z58 (List.mem_map.2 ⟨_,List.getElem_mem (by omega),rfl⟩) _ hn))
   obtain ⟨b,off,sp⟩:=a
   obtain ⟨cs0,_,hl0,hc0,_⟩:=key 0 (by omega)
   have hz:=hc0 0 hC0
   rw [List.getElem?_eq_getElem (by omega)] at hz
   have hsp : sp = none ∧ b < w.heap.size:=by
    simp only [Nat.zero_mul,Nat.add_zero,Addr.add,if_true] at hz
    unfold World.cell? at hz
    cases sp with
    | some s =>
     cases hh : w.heap[b]? <;> rw [hh] at hz <;> try (cases hz)
     rename_i o; cases o <;> simp at hz
    | none => exact ⟨rfl,by
     rcases Nat.lt_or_ge b w.heap.size with h | h
     ·exact h
     ·simp [Array.getElem?_eq_none h] at hz⟩
   obtain ⟨rfl,hb⟩:=hsp
   refine .inr ⟨b,off,rfl,hb,fun i hi => ?_⟩
   obtain ⟨cs',y,h1,h2,h3,h4⟩:=key i hi
   refine ⟨cs',y,h1,fun j hj => ?_,h3,h4⟩
   have:=h2 j hj
   rw [← this]
   congr 1
   unfold Addr.add
   split <;> simp <;> omega
theorem open_names {v : Value} {d : DataW H} {ps : List MemPlace} {W : World} {r : Reach} {b0 : Nat} (hval : Value.okWide Tryz.prog W r b0 22 v) (h : DataW.Trod enc Tryz.prog w base spare held 22 v d ps) :
 ∃ l,NRep w w.heap.size v l ∧ ((∀ n ∈ d.weights Tryz.prog 22,n ≤ reachBytes) → ∀ s ∈ l,s.size ≤ 281474976710656):=by
 obtain ⟨fuel,h⟩:=h
 obtain ⟨a9,len9,cap9,rfl⟩:=okWide_slice Tryz.underlying22 hval
 have hv0 : (Value.slice a9 len9 cap9).cells.toList = [Value.slice a9 len9 cap9]:=by simp [Value.cells]
 rw [hv0] at h
 obtain ⟨a,len,cap,e,hm,hc⟩:=slice_readW Tryz.underlying22 Tryz.cells9 (by omega) h
 obtain ⟨rfl,rfl,rfl⟩ : a9 = a ∧ len9 = len ∧ cap9 = cap:=by simpa using e
 rcases hc with rfl | ⟨b,off,rfl,hb,hc⟩
 ·exact ⟨[],⟨a9,cap9,rfl,by simp,.inl rfl⟩,fun _ => by simp⟩
 ·have key : ∀ i : Fin len9,∃ s : ByteArray,w.cell? ⟨b,off + i.1,none⟩ = some (.string s) ∧ ((∀ n ∈ d.weights Tryz.prog 22,n ≤ reachBytes) → s.size ≤ 281474976710656):=fun i => by
   obtain ⟨cs',y,g1,g2,g3,g4⟩:=hc i.1 i.2
   obtain ⟨s,e1,x1,_⟩:=DataW.trod_string Tryz.underlying9 g3
   refine ⟨s,?_,fun hw => ?_⟩
   ·have:=g2 0 (by omega)
    rw [e1] at this
    simpa using this
   ·have:=hw s.size (g4 _ (by rw [x1]; simp [DataW.weights]))
    simp only [reachBytes] at this; omega
  refine ⟨List.ofFn fun i => Classical.choose (key i),⟨some ⟨b,off,none⟩,cap9,by simp,by simpa using hm,.inr ⟨b,off,rfl,hb,fun i hi => ?_⟩⟩,fun hw s hs => ?_⟩
  ·have:=(Classical.choose_spec (key ⟨i,by simpa using hi⟩)).1
   simpa using this
  ·rw [List.mem_ofFn] at hs
   obtain ⟨i,rfl⟩:=hs
   exact (Classical.choose_spec (key i)).2 hw
end
end Go.Proofs.YtpgdplmndnopbaaGreatDoor
