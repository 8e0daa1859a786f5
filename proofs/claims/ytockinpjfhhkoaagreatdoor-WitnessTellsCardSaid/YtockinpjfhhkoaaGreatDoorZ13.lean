/- lex.cutter's end and sign. -/
import Derived.Deep.CutRange
import Derived.Deep.RegionWith
import Derived.Lib.OthersKept
import Derived.Test.YtockinpjfhhkoaaGreatDoorZ12
import Derived.Test.YtockinpjfhhkoaaGreatDoorZ01
set_option maxRecDepth 100000
set_option maxHeartbeats 16000000
open List renaming getElem?_cons_zero → J7, getElem?_cons_succ → J8, getElem?_toArray → J9
open Go.Lib renaming cell_of_heap → Jc, frozen_of_heap → Jf, hid → Jh
open Go.RowKit.Below renaming heap_alloc → Jb
namespace Go.Proofs.YtockinpjfhhkoaaGreatDoor
open Go.RowKit Go.Shelf
attribute [local go_sem ↓] Go.wp_at_zero Go.wp_at_succ
def CutSt (w : World) (B cb : Nat) (src : ByteArray) (toks : List Tok) (f : Int) : Prop :=
 ∃ lv,w.heap[cb]? = some (.cells #[.string src,lv,.int .i64 f] 242 (0,0)) ∧ OwnT w B lv toks
theorem Rdy.heap {w W : World} (h : W.heap = w.heap) : Rdy w → Rdy W:=by
 unfold Rdy World.cell?
 rw [h]
 exact id
theorem own_ne {w : World} {B : Nat} {v : Value} {l : List Tok} {cb : Nat} {cs : Array Value} {t : TypeId} {fz : Nat × Nat} (h : OwnT w B v l) (hb : w.heap[cb]? = some (.cells cs t fz)) (ht : t ≠ 194) : v.ownBlock ≠ some cb:=by
 rcases h.2 with ⟨rfl,_⟩ | ⟨g,cap,cur,rfl,_,hg,_⟩
 ·simp [Value.ownBlock]
 ·intro hh
  simp only [Value.ownBlock,Option.some.injEq] at hh
  subst hh
  rw [hb] at hg
  cases hg
  exact ht rfl
theorem z63 {w : World} {B : Nat} {v : Value} {l : List Tok} (h : OwnT w B v l) : ∀ g,v.ownBlock = some g → ∃ c fz,w.heap[g]? = some (.cells c 194 fz):=by
 intro k hk
 rcases h.2 with ⟨rfl,_⟩ | ⟨g,cap,cur,rfl,_,hg,_⟩
 ·simp [Value.ownBlock] at hk
 ·simp only [Value.ownBlock,Option.some.injEq] at hk
  subst hk
  exact ⟨cur,(0,0),hg⟩
theorem OwnT.setOther {w : World} {B : Nat} {v : Value} {l : List Tok} {cb j : Nat} {cs : Array Value} {t : TypeId} {fz : Nat × Nat} (h : OwnT w B v l) (hb : w.heap[cb]? = some (.cells cs t fz)) (ht : t ≠ 194) (x : Value) : OwnT (w.setCell ⟨cb,j,none⟩ x) B v l :=
 World.ownsRow.kept h (row:=some cb) ⟨rfl,rfl,rfl,by simp [World.setCell],fun k _ hk => Below.heap_setCell _ _ _ _ (fun e => hk (by simp [e]))⟩ (Or.inr (own_ne h hb ht))
theorem z1p {w1 : World} {g : Nat} {x' y' z' : Value} {t : TypeId} (h : w1.heap[g]? = some (.cells #[x',y',z'] t (0,0))) (y : Value) :
 (w1.setCell ⟨g,1,none⟩ y).heap[g]? = some (.cells #[x',y,z'] t (0,0)):=heap_setCell_same _ _ _ _ _ _ h
theorem set2_heap {w1 : World} {g : Nat} {x' y' z' : Value} {t : TypeId} (h : w1.heap[g]? = some (.cells #[x',y',z'] t (0,0))) (y z : Value) :
 ((w1.setCell ⟨g,1,none⟩ y).setCell ⟨g,2,none⟩ z).heap[g]? = some (.cells #[x',y,z] t (0,0)):=heap_setCell_same _ _ _ _ _ _ (heap_setCell_same _ _ _ _ _ _ h)
def _root_.Go.World.alike2 (W w : World) : Prop:=W.heap = w.heap ∧ W.os = w.os ∧ W.tape = w.tape ∧ W.output = w.output
theorem _root_.Go.World.alike2.below {W w w1 : World} {B : Nat} (h : W.alike2 w) (hb : Below B W w1) : Below B w w1 :=
 ⟨hb.os.trans h.2.1,hb.tape.trans h.2.2.1,hb.output.trans h.2.2.2,by rw [← h.1]; exact hb.size,fun j hj => by rw [← h.1]; exact hb.block j hj⟩
theorem set3_heap {w1 : World} {g : Nat} {x' y' z' : Value} {t : TypeId} (h : w1.heap[g]? = some (.cells #[x',y',z'] t (0,0))) (x y z : Value) :
 (((w1.setCell ⟨g,0,none⟩ x).setCell ⟨g,1,none⟩ y).setCell ⟨g,2,none⟩ z).heap[g]? = some (.cells #[x,y,z] t (0,0)) :=
 heap_setCell_same _ _ _ _ _ _ (heap_setCell_same _ _ _ _ _ _ (heap_setCell_same _ _ _ _ _ _ h))
theorem end21_none (cb : Nat) (src : ByteArray) (lv : Value) (f at_ : Int) (w : World) (hf : f < 0) (h : w.heap[cb]? = some (.cells #[.string src,lv,.int .i64 f] 242 (0,0))) :
 Calls Tryz.prog 193 #[.pointer (some ⟨cb,0,none⟩),.int .i64 at_] w fun e w' => e = .returned (.int .i64 0) ∧ w' = w:=by
 have c2:=Jc h 2
 simp only [J9,J7,J8] at c2
 clear h
 go_enter Tryz.func193,Tryz.ntmps193
 go_wp2_with fail
 go_ret
 exact ⟨rfl,rfl⟩
theorem end21_row (B cb : Nat) (src : ByteArray) (lv : Value) (toks : List Tok) (f at_ : Nat) (w : World) (hB : B ≤ cb) (hBw : B ≤ w.heap.size) (hr : Rdy w) (hfa : f < at_) (has : at_ ≤ src.size) (hsz : src.size ≤ 4096) (htl : toks.length ≤ 4096)
 (h : w.heap[cb]? = some (.cells #[.string src,lv,.int .i64 (f : Int)] 242 (0,0))) (hown : OwnT w B lv toks) :
 Calls Tryz.prog 193 #[.pointer (some ⟨cb,0,none⟩),.int .i64 (at_ : Int)] w fun e w' =>
  (e = .returned (.int .i64 (rowR (src.extract f at_)).2) ∧ (if (rowR (src.extract f at_)).2 = 0 then CutSt w' B cb src (toks ++ [{ (rowR (src.extract f at_)).1 with place:=(f : Int) }]) (-1) else CutSt w' B cb src toks f)) ∧
  Below B w w' ∧ Lib.OthersKept 194 (some cb) w w':=by
 obtain ⟨c0,c1,c2⟩:=cc3 h
 have hsl : ∀ W,(Instr.slice 9 (.string src) (some (.int .i64 (f : Int))) (some (.int .i64 (at_ : Int))) none).run Tryz.prog W = .ok (.string (src.extract f at_)) W:=fun W => by
  rw [run_slice_string W 9 src .i64 .i64 _ _ Tryz.underlying9 (by omega) (by omega) (by omega)]
  rfl
 have HXs : Hid (0 < (src.extract f at_).size ∧ (src.extract f at_).size ≤ 281474976710656):=by rw [Hid,ByteArray.size_extract]; omega
 have HROW : Hid (∀ W,(W.heap = w.heap ∨ W.heap = (w.alloc (.cells #[.int .u8 0,.string .empty,.int .i64 0] 194)).heap) → Calls Tryz.prog 225 #[.string (src.extract f at_)] W fun e w' => e = .returned (.tuple #[.agg #[.int .u8 (rowR (src.extract f at_)).1.kind,.string (rowR (src.extract f at_)).1.text,.int .i64 (rowR (src.extract f at_)).1.place],.int .i64 (rowR (src.extract f at_)).2]) ∧ Below W.heap.size W w') :=
  fun W hW => row41_any _ HXs.out.1 HXs.out.2 W (hW.elim (fun h => Rdy.heap h hr) (fun h => Rdy.heap h (hr.below ((Below.refl _ w).alloc (Nat.le_refl _) _))))
 have HZ : Hid (∀ W0 w1 : World,Below W0.heap.size W0 w1 → W0.heap = (w.alloc (.cells #[.int .u8 0,.string .empty,.int .i64 0] 194)).heap →
  (w1.cell? ⟨w.heap.size,0,none⟩ = some (.int .u8 0) ∧ w1.cell? ⟨w.heap.size,1,none⟩ = some (.string .empty) ∧ w1.cell? ⟨w.heap.size,2,none⟩ = some (.int .i64 0)) ∧
  w1.frozen? ⟨w.heap.size,0,none⟩ = false ∧ w1.frozen? ⟨w.heap.size,1,none⟩ = false ∧ w1.frozen? ⟨w.heap.size,2,none⟩ = false):=by
  intro W0 w1 hb h0
  have hz : (w.alloc (.cells #[.int .u8 0,.string .empty,.int .i64 0] 194)).heap.size = w.heap.size + 1:=by simp
  have hblk : w1.heap[w.heap.size]? = some (.cells #[.int .u8 0,.string .empty,.int .i64 0] 194 (0,0)):=by
   rw [hb.block w.heap.size (by rw [h0,hz]; omega),h0]
   exact Array.getElem?_push_size
  exact ⟨⟨Jc hblk 0,Jc hblk 1,Jc hblk 2⟩,Jf hblk 0,Jf hblk 1,Jf hblk 2⟩
 have HZB : Hid (∀ W0 w1 : World,Below W0.heap.size W0 w1 → W0.alike2 (w.alloc (.cells #[.int .u8 0,.string .empty,.int .i64 0] 194)) →
  w1.heap[w.heap.size]? = some (.cells #[.int .u8 0,.string .empty,.int .i64 0] 194 (0,0)) ∧ Below w.heap.size w w1):=by
  intro W0 w1 hb h0
  have hz : (w.alloc (.cells #[.int .u8 0,.string .empty,.int .i64 0] 194)).heap.size = w.heap.size + 1:=by simp
  have hb0 : Below w.heap.size (w.alloc (.cells #[.int .u8 0,.string .empty,.int .i64 0] 194)) w1:=h0.below (hb.mono (by rw [h0.1,hz]; omega))
  refine ⟨?_,((Below.refl _ w).alloc (Nat.le_refl _) _).trans hb0⟩
  rw [hb.block w.heap.size (by rw [h0.1,hz]; omega),h0.1]
  exact Array.getElem?_push_size
 have HBS : Hid (∀ W0 w1 : World,Below W0.heap.size W0 w1 → W0.alike2 w → Below w.heap.size w w1):=fun W0 w1 hb h0 => h0.below (hb.mono (by rw [h0.1]; exact Nat.le_refl _))
 generalize src.extract f at_ = X at hsl HXs HROW ⊢
 generalize rowR X = RX at HROW ⊢
 obtain ⟨⟨tk,tt,tp⟩,er⟩:=RX
 dsimp only at HROW ⊢
 have HH:=Jh h
 have HR:=Jh hr
 have HOW:=Jh hown
 clear h hr hown
 have hcl : cb < w.heap.size:=(Array.getElem?_eq_some_iff.1 HH.out).1
 go_enter Tryz.func193,Tryz.ntmps193
 go_upto_region 3 with fail
 go_cut [5,6] from 7 (fun p ev wx => ∃ N,p = .pointer (some ⟨N,0,none⟩) ∧ ev = .int .i64 er ∧ w.heap.size ≤ N ∧ wx.heap[N]? = some (.cells #[.int .u8 tk,.string tt,.int .i64 tp] 194 (0,0)) ∧ Below w.heap.size w wx)
 case first =>
  go_region_law (first | (go_simp; go_at_call 225; refine (HROW.out _ (by first | exact Or.inl rfl | exact Or.inr rfl)).mono ?_; rintro e w1 ⟨rfl,hb1⟩; first | (have hq:=HZ.out _ w1 hb1 rfl; obtain ⟨⟨q0,q1,q2⟩,r0,r1,r2⟩:=hq) | skip))
  all_goals (
   go_wp2_with fail
   go_meet
   first
    | exact ⟨w1.heap.size,rfl,rfl,(HBS.out _ w1 hb1 ⟨rfl,rfl,rfl,rfl⟩).size,Array.getElem?_push_size,((HBS.out _ w1 hb1 ⟨rfl,rfl,rfl,rfl⟩).alloc (HBS.out _ w1 hb1 ⟨rfl,rfl,rfl,rfl⟩).size _)⟩
    | exact ⟨w.heap.size,rfl,rfl,Nat.le_refl _,set3_heap (HZB.out _ w1 hb1 ⟨rfl,rfl,rfl,rfl⟩).1 _ _ _,z13 (HZB.out _ w1 hb1 ⟨rfl,rfl,rfl,rfl⟩).2 (Nat.le_refl _) _ _ _⟩)
 case rest =>
  obtain ⟨N,rfl,rfl,hN,hNb,hbx⟩:=hcut
  have hcbx : wc.heap[cb]? = some (.cells #[.string src,lv,.int .i64 (f : Int)] 242 (0,0)):=(hbx.block cb hcl).trans HH.out
  have hownx:=HOW.out.below hbx
  have HBX:=Jh hbx
  clear hbx c0 c1 c2
  by_cases her : er = 0
  ·subst her
   have c2:=Jc hcbx 2
   have n2:=Jc hNb 2
   have m2:=Jf hNb 2
   simp only [J9,J7,J8] at c2 n2
   have hne : cb ≠ N:=by omega
   have HCX:=Jh hcbx
   have HNB:=Jh hNb
   have HOX:=Jh hownx
   clear hcbx hNb hownx
   go_upto_region 6 with fail
   have hcb1 : (wc.setCell ⟨N,2,none⟩ (.int .i64 (f : Int))).heap[cb]? = some (.cells #[.string src,lv,.int .i64 (f : Int)] 242 (0,0)):=by
    rw [Below.heap_setCell _ _ _ _ hne]; exact HCX.out
   have hn1 : (wc.setCell ⟨N,2,none⟩ (.int .i64 (f : Int))).heap[N]? = some (.cells #[.int .u8 tk,.string tt,.int .i64 (f : Int)] 194 (0,0)) :=
    heap_setCell_same _ _ _ _ _ _ HNB.out
   have hb1 : Below w.heap.size w (wc.setCell ⟨N,2,none⟩ (.int .i64 (f : Int))):=HBX.out.setCell (p:=⟨N,2,none⟩) hN _
   generalize wc.setCell ⟨N,2,none⟩ (.int .i64 (f : Int)) = W1 at hcb1 hn1 hb1 ⊢
   have hown1:=HOW.out.below hb1
   have c1:=Jc hcb1 1
   obtain ⟨n0,n1,n2⟩:=cc3 hn1
   simp only [J9,J7,J8] at c1
   have hcl1 : cb < W1.heap.size:=(Array.getElem?_eq_some_iff.1 hcb1).1
   have hnl1 : N < W1.heap.size:=(Array.getElem?_eq_some_iff.1 hn1).1
   have hw1s : w.heap.size ≤ W1.heap.size:=hb1.size
   have hlvne : lv.ownBlock ≠ some cb:=own_ne hown1 hcb1 (by decide)
   have HQ : Hid (∀ Wb W4 : World,Wb.grownBy W4 lv.ownBlock → Wb.alike2 (W1.alloc (.cells #[.int .u8 tk,.string tt,.int .i64 (f : Int)] 194)) →
    (W4.cell? ⟨cb,1,none⟩ = some lv ∧ W4.cell? ⟨cb,2,none⟩ = some (.int .i64 (f : Int)) ∧ W4.frozen? ⟨cb,1,none⟩ = false ∧ W4.frozen? ⟨cb,2,none⟩ = false ∧ cb < W4.heap.size) ∧
    W4.heap[cb]? = some (.cells #[.string src,lv,.int .i64 (f : Int)] 242 (0,0)) ∧ Below B w W4 ∧ Lib.OthersKept 194 (some cb) w W4):=by
    intro Wb W4 hg ha
    have hz : Wb.heap.size = W1.heap.size + 1:=by rw [ha.1]; simp
    have e1 : W4.heap[cb]? = some (.cells #[.string src,lv,.int .i64 (f : Int)] 242 (0,0)):=by
     rw [hg.block cb (by omega) (fun h => hlvne h.symm),ha.1]
     exact (Jb W1 _ cb hcl1).trans hcb1
    have eb : Below w.heap.size w Wb:=by
     have:=hb1.alloc hw1s (.cells #[.int .u8 tk,.string tt,.int .i64 (f : Int)] 194)
     exact ⟨ha.2.1.trans this.os,ha.2.2.1.trans this.tape,ha.2.2.2.trans this.output,by rw [ha.1]; exact this.size,fun j hj => by rw [ha.1]; exact this.block j hj⟩
    have ek : Lib.OthersKept 194 (some cb) w Wb:=fun k o hk _ _ => (eb.block k (Array.getElem?_eq_some_iff.1 hk).1).trans hk
    refine ⟨⟨Jc e1 1,Jc e1 2,Jf e1 1,Jf e1 2,(Array.getElem?_eq_some_iff.1 e1).1⟩,e1,?_,?_⟩
    ·exact (eb.mono hBw).grown hg (by omega) (fun j hj => (World.ownsRow.lt (HOW.out) j hj).1)
    ·refine ek.grown hg (fun g hgg => ?_)
     have h1 : ∃ c fz,W1.heap[g]? = some (.cells c 194 fz):=z63 hown1 g hgg
     obtain ⟨c,fz,h1⟩:=h1
     exact ⟨c,fz,by rw [ha.1]; exact (Jb W1 _ g (Array.getElem?_eq_some_iff.1 h1).1).trans h1⟩
   have HO1:=Jh hown1
   obtain ⟨i0,hi,hz0,hz1,hz2⟩:=info_parts Tryz.info194
   clear hcb1 hn1 hb1 hown1 c2 hne
   go_region_law (refine step_append_lies _ rfl _ _ 186 rfl B 194 i0 _ 3 32 Tryz.underlying186 hi hz0 hz1 hz2 rfl (by decide) _ _ _ rfl (World.ownsRow.alloc (show World.ownsRow _ _ _ _ _ _ _ from HO1.out) _) _ 1 1 [.int .u8 tk,.string tt,.int .i64 (f : Int)] rfl rfl (by intro j q hj; have hq:=z0i W1 (.int .u8 tk) (.string tt) (.int .i64 (f : Int)) 194 j q hj; simpa using hq) (by intro u hu; simp at hu; rcases hu with rfl | rfl | rfl <;> rfl) (by decide) (by simp only [maxLen]; omega) (by omega) (by simp; omega) _ rfl ?_; intro g cp w4 hown' hgrow hat hltg; obtain ⟨⟨y1,y2,y3,y4,y5⟩,y6,y7,y8⟩:=HQ.out _ w4 hgrow ⟨rfl,rfl,rfl,rfl⟩)
   all_goals (
    go_wp2_with fail
    go_ret
    have hO4 : OwnT w4 B (.slice (some ⟨g,0,none⟩) (toks.length + 1) cp) (toks ++ [⟨tk,tt,(f : Int)⟩]):=by
     show World.ownsRow _ _ _ _ _ _ _
     rw [z29,List.length_append]
     exact hown'
    exact ⟨⟨rfl,_,set2_heap y6 _ _,(hO4.setOther y6 (by decide) _).setOther (z1p y6 _) (by decide) _⟩,(y7.setCell (p:=⟨cb,1,none⟩) hB _).setCell (p:=⟨cb,2,none⟩) hB _,(y8.setCell ⟨cb,1,none⟩ rfl _).setCell ⟨cb,2,none⟩ rfl _⟩)
  ·have her' : (er == 0) = false:=by simpa using her
   go_wp2_with fail
   go_ret
   exact ⟨⟨rfl,lv,hcbx,hownx⟩,HBX.out.mono hBw,fun k o hk _ _ => (HBX.out.block k (Array.getElem?_eq_some_iff.1 hk).1).trans hk⟩
end Go.Proofs.YtockinpjfhhkoaaGreatDoor
