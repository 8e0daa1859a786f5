/- lex.cutter's sign. -/
import Derived.Test.YtockinpjfhhkoaaGreatDoorZ13
set_option maxRecDepth 100000
set_option maxHeartbeats 16000000
open List renaming getElem_cons_zero → J5, getElem?_cons_zero → J7, getElem?_cons_succ → J8, getElem?_toArray → J9
open Go.Lib renaming cell_of_heap → Jc, frozen_of_heap → Jf, hid → Jh
open Go.RowKit.Below renaming heap_alloc → Jb
namespace Go.Proofs.YtockinpjfhhkoaaGreatDoor
open Go.RowKit Go.Shelf
attribute [local go_sem ↓] Go.wp_at_zero Go.wp_at_succ
attribute [local go_sem] eq27
theorem z6u : ∀ i : Fin 128,Utf8.encode (i.val : Int) = bsOf [UInt8.ofNat i.val]:=by decide +kernel
theorem z0v (c : UInt8) (h : c.toNat < 128) : Utf8.encode (c.toNat : Int) = bsOf [c]:=by
 have:=z6u ⟨c.toNat,h⟩
 simpa using this
theorem bsOf_size' (a : List UInt8) : (bsOf a).size = a.length:=by rw [← z3b,z3g]
theorem frame_own {w : World} {B g n cp j : Nat} {cb : Nat} {l : List Tok} (h : OwnT w B (.slice (some ⟨g,0,none⟩) n cp) l) (x : Value) : Lib.OthersKept 194 (some cb) w (w.setCell ⟨g,j,none⟩ x):=by
 intro k o hk _ ho
 obtain ⟨c,fz,hc⟩:=z63 h g rfl
 rw [Below.heap_setCell _ _ _ _ (fun e => by subst e; rw [hk] at hc; exact ho c fz (Option.some.inj hc))]
 exact hk
def z05 (toks : List Tok) (c : UInt8) (a : Int) : List Tok :=
 match toks.getLast? with
 | some t => if twin c = true ∧ t = ⟨3,bsOf [c],a - 1⟩ then toks.dropLast ++ [⟨3,bsOf [c,c],a - 1⟩] else toks ++ [⟨3,bsOf [c],a⟩]
 | none => toks ++ [⟨3,bsOf [c],a⟩]
theorem flatT_setText (pre : List Tok) (t : Tok) (x : ByteArray) : (z2o (pre ++ [t])).set (pre.length * 3 + 1) (.string x) = z2o (pre ++ [{ t with text:=x }]):=by
 rw [z29,z29,List.set_append_right _ _ (by rw [z3f]; omega),z3f]
 simp [z6t,Tok.cells]
theorem OwnT.last {w : World} {B : Nat} {v : Value} {pre : List Tok} {t : Tok} (h : OwnT w B v (pre ++ [t])) :
 ∃ g cap,v = .slice (some ⟨g,0,none⟩) (pre.length + 1) cap ∧ B ≤ g ∧ g < w.heap.size ∧ w.cell? ⟨g,pre.length * 3,none⟩ = some (.int .u8 t.kind) ∧ w.cell? ⟨g,pre.length * 3 + 1,none⟩ = some (.string t.text) ∧ w.cell? ⟨g,pre.length * 3 + 2,none⟩ = some (.int .i64 t.place) ∧
  w.frozen? ⟨g,pre.length * 3 + 1,none⟩ = false ∧ ∀ x,OwnT (w.setCell ⟨g,pre.length * 3 + 1,none⟩ (.string x)) B v (pre ++ [{ t with text:=x }]):=by
 obtain ⟨g,cap,rfl,hg,hgl,hc,hf,hs⟩:=h.at (by simp)
 have h3:=hc pre.length (by simp)
 simp only [List.getElem_append_right (Nat.le_refl _),Nat.sub_self,J5,Nat.zero_add] at h3
 have hl : (pre ++ [t]).length = pre.length + 1:=by simp
 refine ⟨g,cap,by rw [hl],hg,hgl,h3.1,h3.2.1,h3.2.2,hf _,fun x => ?_⟩
 have:=hs (pre.length * 3 + 1) (.string x) h
 rw [flatT_setText] at this
 show World.ownsRow _ _ _ _ _ _ _
 have hl2 : (pre ++ [{ t with text:=x }]).length = (pre ++ [t]).length:=by simp
 rw [hl2]
 exact this
theorem z2i {w : World} {B : Nat} {v : Value} {l : List Tok} {t : Tok} (h : w.ownsRow B 194 3 v (l.length + 1) (z2o l ++ t.cells)) : OwnT w B v (l ++ [t]):=by
 show World.ownsRow _ _ _ _ _ _ _
 rw [z29,List.length_append,z6t]
 exact h
theorem z1y {w : World} {B e size n : Nat} {v : Value} {xs : List Value} (h : w.ownsRow B e size v n xs) : ∃ a c,v = .slice a n c:=by
 rcases h.2 with ⟨rfl,h0⟩ | ⟨g,cap,cur,hv,_⟩
 ·exact ⟨none,0,by rw [h0]⟩
 ·exact ⟨_,_,hv⟩
theorem z10 (B cb : Nat) (src : ByteArray) (lv : Value) (toks : List Tok) (f : Int) (w W4 : World) (o : Obj) (_hB : B ≤ cb) (hBw : B ≤ w.heap.size) (hcl : cb < w.heap.size)
 (h : w.heap[cb]? = some (.cells #[.string src,lv,.int .i64 f] 242 (0,0))) (hown : OwnT w B lv toks) (hg : (w.alloc o).grownBy W4 lv.ownBlock) :
 (W4.cell? ⟨cb,1,none⟩ = some lv ∧ W4.cell? ⟨cb,2,none⟩ = some (.int .i64 f) ∧ W4.frozen? ⟨cb,1,none⟩ = false ∧ W4.frozen? ⟨cb,2,none⟩ = false ∧ cb < W4.heap.size) ∧
  W4.heap[cb]? = some (.cells #[.string src,lv,.int .i64 f] 242 (0,0)) ∧ Below B w W4 ∧ Lib.OthersKept 194 (some cb) w W4:=by
 have hlvne : lv.ownBlock ≠ some cb:=own_ne hown h (by decide)
 have hz : (w.alloc o).heap.size = w.heap.size + 1:=by simp
 have e1 : W4.heap[cb]? = some (.cells #[.string src,lv,.int .i64 f] 242 (0,0)):=by
  rw [hg.block cb (by omega) (fun h => hlvne h.symm)]
  exact (Jb w _ cb hcl).trans h
 refine ⟨⟨Jc e1 1,Jc e1 2,Jf e1 1,Jf e1 2,(Array.getElem?_eq_some_iff.1 e1).1⟩,e1,?_,?_⟩
 ·exact ((Below.refl B w).alloc hBw o).grown hg (by omega) (fun j hj => (World.ownsRow.lt hown j hj).1)
 ·refine ((Lib.OthersKept.refl 194 (some cb) w).alloc o).grown hg (fun g hgg => ?_)
  obtain ⟨c,fz,h1⟩:=z63 hown g hgg
  exact ⟨c,fz,(Jb w _ g (Array.getElem?_eq_some_iff.1 h1).1).trans h1⟩
theorem sign22_nil (B cb : Nat) (src : ByteArray) (lv : Value) (_hu : True) (f : Int) (c : UInt8) (hc : c.toNat < 128) (a : Int) (_ha0 : 0 ≤ a) (_ha1 : a ≤ 4096) (w : World) (hB : B ≤ cb) (hBw : B ≤ w.heap.size) (_htl : (0 : Nat) ≤ 4096)
 (h : w.heap[cb]? = some (.cells #[.string src,lv,.int .i64 f] 242 (0,0))) (hown : OwnT w B lv ([])) :
 Calls Tryz.prog 194 #[.pointer (some ⟨cb,0,none⟩),.int .i32 c.toNat,.int .i64 a] w fun e w' =>
  e = .returned (.tuple #[]) ∧ CutSt w' B cb src (z05 [] c a) f ∧ Below B w w' ∧ Lib.OthersKept 194 (some cb) w w':=by
 have hX : Utf8.encode (c.toNat : Int) = bsOf [c]:=z0v c hc
 have hcl : cb < w.heap.size:=(Array.getElem?_eq_some_iff.1 h).1
 have c1:=Jc h 1
 simp only [J9,J7,J8] at c1
 have HV : Hid (z05 [] c a = [] ++ [⟨3,bsOf [c],a⟩]):=rfl
 generalize bsOf [c] = X at hX HV
 obtain ⟨a0,c0,rfl⟩:=hown.shape
 simp only [List.length_nil] at c1 h hown
 have HOW:=Jh hown
 have HH:=Jh h
 clear h hown
 have hw1 : IntKind.i64.wrap (-1) = -1:=by decide
 go_enter Tryz.func194,Tryz.ntmps194
 go_upto_region 3 with fail
 clear c1
 obtain ⟨vv,hvv⟩ : ∃ vv,(Value.slice a0 0 c0) = vv:=⟨_,rfl⟩
 have hown:=HOW.out
 have hh:=HH.out
 rw [hvv] at hown hh
 clear hvv HOW HH
 have c1 : w.cell? ⟨cb,1,none⟩ = some vv:=Jc hh 1
 have HO1:=Jh hown
 have HQ:=Jh (fun w4 => z10 B cb src vv ([]) f w w4 (.cells #[.int .u8 3,.string X,.int .i64 a] 194) hB hBw hcl hh hown)
 have HHX:=Jh hh
 obtain ⟨i0,hi,hz0,hz1,hz2⟩:=info_parts Tryz.info194
 clear hown hh
 go_wp2_with (at_builtin; refine wpList_append_own_at _ rfl _ _ 186 rfl B 194 i0 _ 3 32 Tryz.underlying186 hi hz0 hz1 hz2 rfl (by decide) _ _ _ rfl (World.ownsRow.alloc (show World.ownsRow _ _ _ _ _ _ _ from HO1.out) _) _ 1 1 [.int .u8 3,.string X,.int .i64 a] rfl rfl (z0i _ _ _ _ _) ?c2 ?c3 ?c4 ?c5 ?_)
 case c2 => first | exact ⟨rfl,rfl,rfl⟩ | (intro u hu; simp at hu; rcases hu with rfl | rfl | rfl <;> rfl)
 case c3 => first | (simp only [maxLen,List.length_nil]; omega) | (simp [maxLen]; omega) | (simp [maxLen]; omega)
 case c4 => first | (simp only [List.length_nil]; omega) | omega | (simp; omega)
 case c5 => first | omega | (simp; omega)
 intro v' w4 hown' hgrow hnil hat
 obtain ⟨⟨y1,y2,y3,y4,y5⟩,y6,y7,y8⟩:=HQ.out w4 hgrow
 clear hgrow hnil hat
 have hO4:=z2i (l:=[]) (t:=⟨3,X,a⟩) hown'
 obtain ⟨a9,c9,rfl⟩:=z1y hown'
 clear hown'
 go_wp2_with fail
 go_end0
 rw [HV.out]
 exact ⟨rfl,⟨_,z1p y6 _,hO4.setOther y6 (by decide) _⟩,y7.setCell (p:=⟨cb,1,none⟩) hB _,y8.setCell ⟨cb,1,none⟩ rfl _⟩
theorem sign22_plain (B cb : Nat) (src : ByteArray) (lv : Value) (pre : List Tok) (t : Tok) (f : Int) (c : UInt8) (hc : c.toNat < 128) (a : Int) (ha0 : 0 ≤ a) (ha1 : a ≤ 4096) (w : World) (hB : B ≤ cb) (hBw : B ≤ w.heap.size) (htl : (pre ++ [t]).length ≤ 4096)
 (h : w.heap[cb]? = some (.cells #[.string src,lv,.int .i64 f] 242 (0,0))) (hown : OwnT w B lv (pre ++ [t])) (ht : twin c = false) :
 Calls Tryz.prog 194 #[.pointer (some ⟨cb,0,none⟩),.int .i32 c.toNat,.int .i64 a] w fun e w' =>
  e = .returned (.tuple #[]) ∧ CutSt w' B cb src (z05 (pre ++ [t]) c a) f ∧ Below B w w' ∧ Lib.OthersKept 194 (some cb) w w':=by
 have hX : Utf8.encode (c.toNat : Int) = bsOf [c]:=z0v c hc
 have hcl : cb < w.heap.size:=(Array.getElem?_eq_some_iff.1 h).1
 have c1:=Jc h 1
 simp only [J9,J7,J8] at c1
 obtain ⟨g,cp,rfl,hg,hgl,k0,k1,k2,k3,k4⟩:=hown.last
 have HOW:=Jh hown
 have HH:=Jh h
 have HK4:=Jh k4
 clear h hown k4
 have hpl : (pre ++ [t]).length = pre.length + 1:=by simp
 have hp6 : pre.length ≤ 4096:=by rw [hpl] at htl; omega
 have hw1 : IntKind.i64.wrap ((pre.length : Int) + 1 - 1) = (pre.length : Int):=by rw [IntWalk.i64_in _ (by omega)]; omega
 have hw2 : IntKind.i64.wrap (pre.length : Int) = (pre.length : Int):=IntWalk.i64_in _ (by omega)
 have hw3 : IntKind.i64.wrap (a - 1) = a - 1:=IntWalk.i64_in _ (by omega)
 have hb0 : (0 : Int) ≤ (pre.length : Int):=by omega
 have hb1 : (pre.length : Int) < (pre.length : Int) + 1:=by omega
 have HPL:=Jh hpl
 clear hpl htl
 have HV : Hid (z05 (pre ++ [t]) c a = pre ++ [t] ++ [⟨3,bsOf [c],a⟩]):=by
  rw [Hid,z05,List.getLast?_concat]
  exact if_neg (fun h => by rw [ht] at h; exact absurd h.1 (by decide))
 have d1 : ((c.toNat : Int) == 124) = false:=by simp only [twin,Bool.or_eq_false_iff,beq_eq_false_iff_ne] at ht; simp; omega
 have d2 : ((c.toNat : Int) == 38) = false:=by simp only [twin,Bool.or_eq_false_iff,beq_eq_false_iff_ne] at ht; simp; omega
 clear ht
 generalize bsOf [c] = X at *
 obtain ⟨tk,tt,tp⟩:=t
 dsimp only at *
 go_enter Tryz.func194,Tryz.ntmps194
 go_upto_region 3 with fail
 clear c1
 obtain ⟨vv,hvv⟩ : ∃ vv,(Value.slice (some ⟨g,0,none⟩) (pre.length + 1) cp) = vv:=⟨_,rfl⟩
 have hown:=HOW.out
 have hh:=HH.out
 rw [hvv] at hown hh
 clear hvv HOW HH k0 k1 k2 k3
 have c1 : w.cell? ⟨cb,1,none⟩ = some vv:=Jc hh 1
 have HO1:=Jh hown
 have HQ:=Jh (fun w4 => z10 B cb src vv (pre ++ [⟨tk,tt,tp⟩]) f w w4 (.cells #[.int .u8 3,.string X,.int .i64 a] 194) hB hBw hcl hh hown)
 have HHX:=Jh hh
 obtain ⟨i0,hi,hz0,hz1,hz2⟩:=info_parts Tryz.info194
 clear hown hh
 go_wp2_with (at_builtin; refine wpList_append_own_at _ rfl _ _ 186 rfl B 194 i0 _ 3 32 Tryz.underlying186 hi hz0 hz1 hz2 rfl (by decide) _ _ _ rfl (World.ownsRow.alloc (show World.ownsRow _ _ _ _ _ _ _ from HO1.out) _) _ 1 1 [.int .u8 3,.string X,.int .i64 a] rfl rfl (z0i _ _ _ _ _) ?c2 ?c3 ?c4 ?c5 ?_)
 case c2 => first | exact ⟨rfl,rfl,rfl⟩ | (intro u hu; simp at hu; rcases hu with rfl | rfl | rfl <;> rfl)
 case c3 => first | (simp only [maxLen,HPL.out]; omega) | (simp [maxLen]; omega) | (simp [maxLen]; omega)
 case c4 => first | (simp only [HPL.out]; omega) | omega | (simp; omega)
 case c5 => first | omega | (simp; omega)
 intro v' w4 hown' hgrow hnil hat
 obtain ⟨⟨y1,y2,y3,y4,y5⟩,y6,y7,y8⟩:=HQ.out w4 hgrow
 clear hgrow hnil hat
 have hO4:=z2i (l:=pre ++ [⟨tk,tt,tp⟩]) (t:=⟨3,X,a⟩) (by rw [HPL.out]; exact hown')
 obtain ⟨a9,c9,rfl⟩:=z1y hown'
 clear hown'
 go_wp2_with fail
 go_end0
 rw [HV.out]
 exact ⟨rfl,⟨_,z1p y6 _,hO4.setOther y6 (by decide) _⟩,y7.setCell (p:=⟨cb,1,none⟩) hB _,y8.setCell ⟨cb,1,none⟩ rfl _⟩
theorem sign22_kindA (B cb : Nat) (src : ByteArray) (lv : Value) (pre : List Tok) (t : Tok) (f : Int) (c : UInt8) (hc : c.toNat < 128) (a : Int) (ha0 : 0 ≤ a) (ha1 : a ≤ 4096) (w : World) (hB : B ≤ cb) (hBw : B ≤ w.heap.size) (htl : (pre ++ [t]).length ≤ 4096)
 (h : w.heap[cb]? = some (.cells #[.string src,lv,.int .i64 f] 242 (0,0))) (hown : OwnT w B lv (pre ++ [t])) (d1 : ((c.toNat : Int) == 124) = true) (q : (t.kind == 3) = false) :
 Calls Tryz.prog 194 #[.pointer (some ⟨cb,0,none⟩),.int .i32 c.toNat,.int .i64 a] w fun e w' =>
  e = .returned (.tuple #[]) ∧ CutSt w' B cb src (z05 (pre ++ [t]) c a) f ∧ Below B w w' ∧ Lib.OthersKept 194 (some cb) w w':=by
 have hX : Utf8.encode (c.toNat : Int) = bsOf [c]:=z0v c hc
 have hcl : cb < w.heap.size:=(Array.getElem?_eq_some_iff.1 h).1
 have c1:=Jc h 1
 simp only [J9,J7,J8] at c1
 obtain ⟨g,cp,rfl,hg,hgl,k0,k1,k2,k3,k4⟩:=hown.last
 have HOW:=Jh hown
 have HH:=Jh h
 have HK4:=Jh k4
 clear h hown k4
 have hpl : (pre ++ [t]).length = pre.length + 1:=by simp
 have hp6 : pre.length ≤ 4096:=by rw [hpl] at htl; omega
 have hw1 : IntKind.i64.wrap ((pre.length : Int) + 1 - 1) = (pre.length : Int):=by rw [IntWalk.i64_in _ (by omega)]; omega
 have hw2 : IntKind.i64.wrap (pre.length : Int) = (pre.length : Int):=IntWalk.i64_in _ (by omega)
 have hw3 : IntKind.i64.wrap (a - 1) = a - 1:=IntWalk.i64_in _ (by omega)
 have hb0 : (0 : Int) ≤ (pre.length : Int):=by omega
 have hb1 : (pre.length : Int) < (pre.length : Int) + 1:=by omega
 have HPL:=Jh hpl
 clear hpl htl
 have HV : Hid (z05 (pre ++ [t]) c a = pre ++ [t] ++ [⟨3,bsOf [c],a⟩]):=by
  rw [Hid,z05,List.getLast?_concat]
  exact if_neg (fun h => by rw [h.2] at q; simp at q)
 generalize bsOf [c] = X at *
 obtain ⟨tk,tt,tp⟩:=t
 dsimp only at *
 go_enter Tryz.func194,Tryz.ntmps194
 go_upto_region 3 with fail
 clear c1
 obtain ⟨vv,hvv⟩ : ∃ vv,(Value.slice (some ⟨g,0,none⟩) (pre.length + 1) cp) = vv:=⟨_,rfl⟩
 have hown:=HOW.out
 have hh:=HH.out
 rw [hvv] at hown hh
 clear hvv HOW HH k0 k1 k2 k3
 have c1 : w.cell? ⟨cb,1,none⟩ = some vv:=Jc hh 1
 have HO1:=Jh hown
 have HQ:=Jh (fun w4 => z10 B cb src vv (pre ++ [⟨tk,tt,tp⟩]) f w w4 (.cells #[.int .u8 3,.string X,.int .i64 a] 194) hB hBw hcl hh hown)
 have HHX:=Jh hh
 obtain ⟨i0,hi,hz0,hz1,hz2⟩:=info_parts Tryz.info194
 clear hown hh
 go_wp2_with (at_builtin; refine wpList_append_own_at _ rfl _ _ 186 rfl B 194 i0 _ 3 32 Tryz.underlying186 hi hz0 hz1 hz2 rfl (by decide) _ _ _ rfl (World.ownsRow.alloc (show World.ownsRow _ _ _ _ _ _ _ from HO1.out) _) _ 1 1 [.int .u8 3,.string X,.int .i64 a] rfl rfl (z0i _ _ _ _ _) ?c2 ?c3 ?c4 ?c5 ?_)
 case c2 => first | exact ⟨rfl,rfl,rfl⟩ | (intro u hu; simp at hu; rcases hu with rfl | rfl | rfl <;> rfl)
 case c3 => first | (simp only [maxLen,HPL.out]; omega) | (simp [maxLen]; omega) | (simp [maxLen]; omega)
 case c4 => first | (simp only [HPL.out]; omega) | omega | (simp; omega)
 case c5 => first | omega | (simp; omega)
 intro v' w4 hown' hgrow hnil hat
 obtain ⟨⟨y1,y2,y3,y4,y5⟩,y6,y7,y8⟩:=HQ.out w4 hgrow
 clear hgrow hnil hat
 have hO4:=z2i (l:=pre ++ [⟨tk,tt,tp⟩]) (t:=⟨3,X,a⟩) (by rw [HPL.out]; exact hown')
 obtain ⟨a9,c9,rfl⟩:=z1y hown'
 clear hown'
 go_wp2_with fail
 go_end0
 rw [HV.out]
 exact ⟨rfl,⟨_,z1p y6 _,hO4.setOther y6 (by decide) _⟩,y7.setCell (p:=⟨cb,1,none⟩) hB _,y8.setCell ⟨cb,1,none⟩ rfl _⟩
theorem sign22_textA (B cb : Nat) (src : ByteArray) (lv : Value) (pre : List Tok) (t : Tok) (f : Int) (c : UInt8) (hc : c.toNat < 128) (a : Int) (ha0 : 0 ≤ a) (ha1 : a ≤ 4096) (w : World) (hB : B ≤ cb) (hBw : B ≤ w.heap.size) (htl : (pre ++ [t]).length ≤ 4096)
 (h : w.heap[cb]? = some (.cells #[.string src,lv,.int .i64 f] 242 (0,0))) (hown : OwnT w B lv (pre ++ [t])) (d1 : ((c.toNat : Int) == 124) = true) (hk : t.kind = 3) (q : (t.text.toList == (bsOf [c]).toList) = false) :
 Calls Tryz.prog 194 #[.pointer (some ⟨cb,0,none⟩),.int .i32 c.toNat,.int .i64 a] w fun e w' =>
  e = .returned (.tuple #[]) ∧ CutSt w' B cb src (z05 (pre ++ [t]) c a) f ∧ Below B w w' ∧ Lib.OthersKept 194 (some cb) w w':=by
 have hX : Utf8.encode (c.toNat : Int) = bsOf [c]:=z0v c hc
 have hcl : cb < w.heap.size:=(Array.getElem?_eq_some_iff.1 h).1
 have c1:=Jc h 1
 simp only [J9,J7,J8] at c1
 obtain ⟨g,cp,rfl,hg,hgl,k0,k1,k2,k3,k4⟩:=hown.last
 have HOW:=Jh hown
 have HH:=Jh h
 have HK4:=Jh k4
 clear h hown k4
 have hpl : (pre ++ [t]).length = pre.length + 1:=by simp
 have hp6 : pre.length ≤ 4096:=by rw [hpl] at htl; omega
 have hw1 : IntKind.i64.wrap ((pre.length : Int) + 1 - 1) = (pre.length : Int):=by rw [IntWalk.i64_in _ (by omega)]; omega
 have hw2 : IntKind.i64.wrap (pre.length : Int) = (pre.length : Int):=IntWalk.i64_in _ (by omega)
 have hw3 : IntKind.i64.wrap (a - 1) = a - 1:=IntWalk.i64_in _ (by omega)
 have hb0 : (0 : Int) ≤ (pre.length : Int):=by omega
 have hb1 : (pre.length : Int) < (pre.length : Int) + 1:=by omega
 have HPL:=Jh hpl
 clear hpl htl
 have HV : Hid (z05 (pre ++ [t]) c a = pre ++ [t] ++ [⟨3,bsOf [c],a⟩]):=by
  rw [Hid,z05,List.getLast?_concat]
  exact if_neg (fun h => by rw [h.2] at q; simp at q)
 generalize bsOf [c] = X at *
 obtain ⟨tk,tt,tp⟩:=t
 dsimp only at *
 subst hk
 go_enter Tryz.func194,Tryz.ntmps194
 go_upto_region 3 with fail
 clear c1
 obtain ⟨vv,hvv⟩ : ∃ vv,(Value.slice (some ⟨g,0,none⟩) (pre.length + 1) cp) = vv:=⟨_,rfl⟩
 have hown:=HOW.out
 have hh:=HH.out
 rw [hvv] at hown hh
 clear hvv HOW HH k0 k1 k2 k3
 have c1 : w.cell? ⟨cb,1,none⟩ = some vv:=Jc hh 1
 have HO1:=Jh hown
 have HQ:=Jh (fun w4 => z10 B cb src vv (pre ++ [⟨3,tt,tp⟩]) f w w4 (.cells #[.int .u8 3,.string X,.int .i64 a] 194) hB hBw hcl hh hown)
 have HHX:=Jh hh
 obtain ⟨i0,hi,hz0,hz1,hz2⟩:=info_parts Tryz.info194
 clear hown hh
 go_wp2_with (at_builtin; refine wpList_append_own_at _ rfl _ _ 186 rfl B 194 i0 _ 3 32 Tryz.underlying186 hi hz0 hz1 hz2 rfl (by decide) _ _ _ rfl (World.ownsRow.alloc (show World.ownsRow _ _ _ _ _ _ _ from HO1.out) _) _ 1 1 [.int .u8 3,.string X,.int .i64 a] rfl rfl (z0i _ _ _ _ _) ?c2 ?c3 ?c4 ?c5 ?_)
 case c2 => first | exact ⟨rfl,rfl,rfl⟩ | (intro u hu; simp at hu; rcases hu with rfl | rfl | rfl <;> rfl)
 case c3 => first | (simp only [maxLen,HPL.out]; omega) | (simp [maxLen]; omega) | (simp [maxLen]; omega)
 case c4 => first | (simp only [HPL.out]; omega) | omega | (simp; omega)
 case c5 => first | omega | (simp; omega)
 intro v' w4 hown' hgrow hnil hat
 obtain ⟨⟨y1,y2,y3,y4,y5⟩,y6,y7,y8⟩:=HQ.out w4 hgrow
 clear hgrow hnil hat
 have hO4:=z2i (l:=pre ++ [⟨3,tt,tp⟩]) (t:=⟨3,X,a⟩) (by rw [HPL.out]; exact hown')
 obtain ⟨a9,c9,rfl⟩:=z1y hown'
 clear hown'
 go_wp2_with fail
 go_end0
 rw [HV.out]
 exact ⟨rfl,⟨_,z1p y6 _,hO4.setOther y6 (by decide) _⟩,y7.setCell (p:=⟨cb,1,none⟩) hB _,y8.setCell ⟨cb,1,none⟩ rfl _⟩
theorem sign22_placeA (B cb : Nat) (src : ByteArray) (lv : Value) (pre : List Tok) (t : Tok) (f : Int) (c : UInt8) (hc : c.toNat < 128) (a : Int) (ha0 : 0 ≤ a) (ha1 : a ≤ 4096) (w : World) (hB : B ≤ cb) (hBw : B ≤ w.heap.size) (htl : (pre ++ [t]).length ≤ 4096)
 (h : w.heap[cb]? = some (.cells #[.string src,lv,.int .i64 f] 242 (0,0))) (hown : OwnT w B lv (pre ++ [t])) (d1 : ((c.toNat : Int) == 124) = true) (hk : t.kind = 3) (hx : t.text = bsOf [c]) (q : (t.place == a - 1) = false) :
 Calls Tryz.prog 194 #[.pointer (some ⟨cb,0,none⟩),.int .i32 c.toNat,.int .i64 a] w fun e w' =>
  e = .returned (.tuple #[]) ∧ CutSt w' B cb src (z05 (pre ++ [t]) c a) f ∧ Below B w w' ∧ Lib.OthersKept 194 (some cb) w w':=by
 have hX : Utf8.encode (c.toNat : Int) = bsOf [c]:=z0v c hc
 have hcl : cb < w.heap.size:=(Array.getElem?_eq_some_iff.1 h).1
 have c1:=Jc h 1
 simp only [J9,J7,J8] at c1
 obtain ⟨g,cp,rfl,hg,hgl,k0,k1,k2,k3,k4⟩:=hown.last
 have HOW:=Jh hown
 have HH:=Jh h
 have HK4:=Jh k4
 clear h hown k4
 have hpl : (pre ++ [t]).length = pre.length + 1:=by simp
 have hp6 : pre.length ≤ 4096:=by rw [hpl] at htl; omega
 have hw1 : IntKind.i64.wrap ((pre.length : Int) + 1 - 1) = (pre.length : Int):=by rw [IntWalk.i64_in _ (by omega)]; omega
 have hw2 : IntKind.i64.wrap (pre.length : Int) = (pre.length : Int):=IntWalk.i64_in _ (by omega)
 have hw3 : IntKind.i64.wrap (a - 1) = a - 1:=IntWalk.i64_in _ (by omega)
 have hb0 : (0 : Int) ≤ (pre.length : Int):=by omega
 have hb1 : (pre.length : Int) < (pre.length : Int) + 1:=by omega
 have HPL:=Jh hpl
 clear hpl htl
 have HV : Hid (z05 (pre ++ [t]) c a = pre ++ [t] ++ [⟨3,bsOf [c],a⟩]):=by
  rw [Hid,z05,List.getLast?_concat]
  exact if_neg (fun h => by rw [h.2] at q; simp at q)
 generalize bsOf [c] = X at *
 obtain ⟨tk,tt,tp⟩:=t
 dsimp only at *
 subst hk
 have hx:=hx.symm
 subst hx
 go_enter Tryz.func194,Tryz.ntmps194
 go_upto_region 3 with fail
 clear c1
 obtain ⟨vv,hvv⟩ : ∃ vv,(Value.slice (some ⟨g,0,none⟩) (pre.length + 1) cp) = vv:=⟨_,rfl⟩
 have hown:=HOW.out
 have hh:=HH.out
 rw [hvv] at hown hh
 clear hvv HOW HH k0 k1 k2 k3
 have c1 : w.cell? ⟨cb,1,none⟩ = some vv:=Jc hh 1
 have HO1:=Jh hown
 have HQ:=Jh (fun w4 => z10 B cb src vv (pre ++ [⟨3,X,tp⟩]) f w w4 (.cells #[.int .u8 3,.string X,.int .i64 a] 194) hB hBw hcl hh hown)
 have HHX:=Jh hh
 obtain ⟨i0,hi,hz0,hz1,hz2⟩:=info_parts Tryz.info194
 clear hown hh
 go_wp2_with (at_builtin; refine wpList_append_own_at _ rfl _ _ 186 rfl B 194 i0 _ 3 32 Tryz.underlying186 hi hz0 hz1 hz2 rfl (by decide) _ _ _ rfl (World.ownsRow.alloc (show World.ownsRow _ _ _ _ _ _ _ from HO1.out) _) _ 1 1 [.int .u8 3,.string X,.int .i64 a] rfl rfl (z0i _ _ _ _ _) ?c2 ?c3 ?c4 ?c5 ?_)
 case c2 => first | exact ⟨rfl,rfl,rfl⟩ | (intro u hu; simp at hu; rcases hu with rfl | rfl | rfl <;> rfl)
 case c3 => first | (simp only [maxLen]; omega) | (simp [maxLen]; omega) | (simp [maxLen]; omega)
 case c4 => first | (simp only [HPL.out]; omega) | omega | (simp; omega)
 case c5 => first | omega | (simp; omega)
 intro v' w4 hown' hgrow hnil hat
 obtain ⟨⟨y1,y2,y3,y4,y5⟩,y6,y7,y8⟩:=HQ.out w4 hgrow
 clear hgrow hnil hat
 have hO4:=z2i (l:=pre ++ [⟨3,X,tp⟩]) (t:=⟨3,X,a⟩) (by rw [HPL.out]; exact hown')
 obtain ⟨a9,c9,rfl⟩:=z1y hown'
 clear hown'
 go_wp2_with fail
 go_end0
 rw [HV.out]
 exact ⟨rfl,⟨_,z1p y6 _,hO4.setOther y6 (by decide) _⟩,y7.setCell (p:=⟨cb,1,none⟩) hB _,y8.setCell ⟨cb,1,none⟩ rfl _⟩
theorem sign22_twoA (B cb : Nat) (src : ByteArray) (lv : Value) (pre : List Tok) (f : Int) (c : UInt8) (hc : c.toNat < 128) (a : Int) (ha0 : 0 ≤ a) (ha1 : a ≤ 4096) (w : World) (_hB : B ≤ cb) (_hBw : B ≤ w.heap.size) (htl : pre.length + 1 ≤ 4096)
 (h : w.heap[cb]? = some (.cells #[.string src,lv,.int .i64 f] 242 (0,0))) (hown : OwnT w B lv (pre ++ [⟨3,bsOf [c],a - 1⟩])) (htw : twin c = true) (d1 : ((c.toNat : Int) == 124) = true) :
 Calls Tryz.prog 194 #[.pointer (some ⟨cb,0,none⟩),.int .i32 c.toNat,.int .i64 a] w fun e w' =>
  e = .returned (.tuple #[]) ∧ CutSt w' B cb src (z05 (pre ++ [⟨3,bsOf [c],a - 1⟩]) c a) f ∧ Below B w w' ∧ Lib.OthersKept 194 (some cb) w w':=by
 have hX : Utf8.encode (c.toNat : Int) = bsOf [c]:=z0v c hc
 have hcl : cb < w.heap.size:=(Array.getElem?_eq_some_iff.1 h).1
 have c1:=Jc h 1
 simp only [J9,J7,J8] at c1
 obtain ⟨g,cp,rfl,hg,hgl,k0,k1,k2,k3,k4⟩:=hown.last
 have HOW:=Jh hown
 have HH:=Jh h
 have HK4:=Jh k4
 clear h hown k4
 have hpl : (pre ++ [(⟨3,bsOf [c],a - 1⟩ : Tok)]).length = pre.length + 1:=by simp
 have hp6 : pre.length ≤ 4096:=by omega
 have hw1 : IntKind.i64.wrap ((pre.length : Int) + 1 - 1) = (pre.length : Int):=by rw [IntWalk.i64_in _ (by omega)]; omega
 have hw2 : IntKind.i64.wrap (pre.length : Int) = (pre.length : Int):=IntWalk.i64_in _ (by omega)
 have hw3 : IntKind.i64.wrap (a - 1) = a - 1:=IntWalk.i64_in _ (by omega)
 have hb0 : (0 : Int) ≤ (pre.length : Int):=by omega
 have hb1 : (pre.length : Int) < (pre.length : Int) + 1:=by omega
 have HPL:=Jh hpl
 clear hpl htl
 have HV : Hid (z05 (pre ++ [⟨3,bsOf [c],a - 1⟩]) c a = pre ++ [⟨3,bsOf [c,c],a - 1⟩]):=by
  rw [Hid,z05,List.getLast?_concat]
  simp only [List.dropLast_concat]
  exact if_pos ⟨htw,trivial⟩
 have hsz : (bsOf [c]).size = 1:=by rw [bsOf_size']; rfl
 have hadd : ∀ W,(Op.stringOp .add (bsOf [c]) (bsOf [c])).run Tryz.prog W = .ok (.string (bsOf [c,c])) W:=fun W => by
  rw [run_string_add_sum W _ _ (by omega)]; rfl
 dsimp only at k0 k1 k2
 have hne:=own_ne HOW.out HH.out (by decide)
 have hgc : g ≠ cb:=fun e => hne (by rw [e]; rfl)
 generalize bsOf [c,c] = Y at *
 generalize bsOf [c] = X at *
 clear hne hsz
 go_enter Tryz.func194,Tryz.ntmps194
 go_wp2_with fail
 refine bodyPost_ret (results_none rfl _ _ _) rfl ?_
 rw [HV.out]
 exact ⟨rfl,⟨_,(Below.heap_setCell _ _ _ _ (fun e => hgc e.symm)).trans HH.out,HK4.out Y⟩,(Below.refl B w).setCell (p:=⟨g,pre.length * 3 + 1,none⟩) hg _,frame_own HOW.out _⟩
theorem sign22_kindB (B cb : Nat) (src : ByteArray) (lv : Value) (pre : List Tok) (t : Tok) (f : Int) (c : UInt8) (hc : c.toNat < 128) (a : Int) (ha0 : 0 ≤ a) (ha1 : a ≤ 4096) (w : World) (hB : B ≤ cb) (hBw : B ≤ w.heap.size) (htl : (pre ++ [t]).length ≤ 4096)
 (h : w.heap[cb]? = some (.cells #[.string src,lv,.int .i64 f] 242 (0,0))) (hown : OwnT w B lv (pre ++ [t])) (d1 : ((c.toNat : Int) == 124) = false) (d2 : ((c.toNat : Int) == 38) = true) (q : (t.kind == 3) = false) :
 Calls Tryz.prog 194 #[.pointer (some ⟨cb,0,none⟩),.int .i32 c.toNat,.int .i64 a] w fun e w' =>
  e = .returned (.tuple #[]) ∧ CutSt w' B cb src (z05 (pre ++ [t]) c a) f ∧ Below B w w' ∧ Lib.OthersKept 194 (some cb) w w':=by
 have hX : Utf8.encode (c.toNat : Int) = bsOf [c]:=z0v c hc
 have hcl : cb < w.heap.size:=(Array.getElem?_eq_some_iff.1 h).1
 have c1:=Jc h 1
 simp only [J9,J7,J8] at c1
 obtain ⟨g,cp,rfl,hg,hgl,k0,k1,k2,k3,k4⟩:=hown.last
 have HOW:=Jh hown
 have HH:=Jh h
 have HK4:=Jh k4
 clear h hown k4
 have hpl : (pre ++ [t]).length = pre.length + 1:=by simp
 have hp6 : pre.length ≤ 4096:=by rw [hpl] at htl; omega
 have hw1 : IntKind.i64.wrap ((pre.length : Int) + 1 - 1) = (pre.length : Int):=by rw [IntWalk.i64_in _ (by omega)]; omega
 have hw2 : IntKind.i64.wrap (pre.length : Int) = (pre.length : Int):=IntWalk.i64_in _ (by omega)
 have hw3 : IntKind.i64.wrap (a - 1) = a - 1:=IntWalk.i64_in _ (by omega)
 have hb0 : (0 : Int) ≤ (pre.length : Int):=by omega
 have hb1 : (pre.length : Int) < (pre.length : Int) + 1:=by omega
 have HPL:=Jh hpl
 clear hpl htl
 have HV : Hid (z05 (pre ++ [t]) c a = pre ++ [t] ++ [⟨3,bsOf [c],a⟩]):=by
  rw [Hid,z05,List.getLast?_concat]
  exact if_neg (fun h => by rw [h.2] at q; simp at q)
 generalize bsOf [c] = X at *
 obtain ⟨tk,tt,tp⟩:=t
 dsimp only at *
 go_enter Tryz.func194,Tryz.ntmps194
 go_upto_region 3 with fail
 clear c1
 obtain ⟨vv,hvv⟩ : ∃ vv,(Value.slice (some ⟨g,0,none⟩) (pre.length + 1) cp) = vv:=⟨_,rfl⟩
 have hown:=HOW.out
 have hh:=HH.out
 rw [hvv] at hown hh
 clear hvv HOW HH k0 k1 k2 k3
 have c1 : w.cell? ⟨cb,1,none⟩ = some vv:=Jc hh 1
 have HO1:=Jh hown
 have HQ:=Jh (fun w4 => z10 B cb src vv (pre ++ [⟨tk,tt,tp⟩]) f w w4 (.cells #[.int .u8 3,.string X,.int .i64 a] 194) hB hBw hcl hh hown)
 have HHX:=Jh hh
 obtain ⟨i0,hi,hz0,hz1,hz2⟩:=info_parts Tryz.info194
 clear hown hh
 go_wp2_with (at_builtin; refine wpList_append_own_at _ rfl _ _ 186 rfl B 194 i0 _ 3 32 Tryz.underlying186 hi hz0 hz1 hz2 rfl (by decide) _ _ _ rfl (World.ownsRow.alloc (show World.ownsRow _ _ _ _ _ _ _ from HO1.out) _) _ 1 1 [.int .u8 3,.string X,.int .i64 a] rfl rfl (z0i _ _ _ _ _) ?c2 ?c3 ?c4 ?c5 ?_)
 case c2 => first | exact ⟨rfl,rfl,rfl⟩ | (intro u hu; simp at hu; rcases hu with rfl | rfl | rfl <;> rfl)
 case c3 => first | (simp only [maxLen,HPL.out]; omega) | (simp [maxLen]; omega) | (simp [maxLen]; omega)
 case c4 => first | (simp only [HPL.out]; omega) | omega | (simp; omega)
 case c5 => first | omega | (simp; omega)
 intro v' w4 hown' hgrow hnil hat
 obtain ⟨⟨y1,y2,y3,y4,y5⟩,y6,y7,y8⟩:=HQ.out w4 hgrow
 clear hgrow hnil hat
 have hO4:=z2i (l:=pre ++ [⟨tk,tt,tp⟩]) (t:=⟨3,X,a⟩) (by rw [HPL.out]; exact hown')
 obtain ⟨a9,c9,rfl⟩:=z1y hown'
 clear hown'
 go_wp2_with fail
 go_end0
 rw [HV.out]
 exact ⟨rfl,⟨_,z1p y6 _,hO4.setOther y6 (by decide) _⟩,y7.setCell (p:=⟨cb,1,none⟩) hB _,y8.setCell ⟨cb,1,none⟩ rfl _⟩
theorem sign22_textB (B cb : Nat) (src : ByteArray) (lv : Value) (pre : List Tok) (t : Tok) (f : Int) (c : UInt8) (hc : c.toNat < 128) (a : Int) (ha0 : 0 ≤ a) (ha1 : a ≤ 4096) (w : World) (hB : B ≤ cb) (hBw : B ≤ w.heap.size) (htl : (pre ++ [t]).length ≤ 4096)
 (h : w.heap[cb]? = some (.cells #[.string src,lv,.int .i64 f] 242 (0,0))) (hown : OwnT w B lv (pre ++ [t])) (d1 : ((c.toNat : Int) == 124) = false) (d2 : ((c.toNat : Int) == 38) = true) (hk : t.kind = 3) (q : (t.text.toList == (bsOf [c]).toList) = false) :
 Calls Tryz.prog 194 #[.pointer (some ⟨cb,0,none⟩),.int .i32 c.toNat,.int .i64 a] w fun e w' =>
  e = .returned (.tuple #[]) ∧ CutSt w' B cb src (z05 (pre ++ [t]) c a) f ∧ Below B w w' ∧ Lib.OthersKept 194 (some cb) w w':=by
 have hX : Utf8.encode (c.toNat : Int) = bsOf [c]:=z0v c hc
 have hcl : cb < w.heap.size:=(Array.getElem?_eq_some_iff.1 h).1
 have c1:=Jc h 1
 simp only [J9,J7,J8] at c1
 obtain ⟨g,cp,rfl,hg,hgl,k0,k1,k2,k3,k4⟩:=hown.last
 have HOW:=Jh hown
 have HH:=Jh h
 have HK4:=Jh k4
 clear h hown k4
 have hpl : (pre ++ [t]).length = pre.length + 1:=by simp
 have hp6 : pre.length ≤ 4096:=by rw [hpl] at htl; omega
 have hw1 : IntKind.i64.wrap ((pre.length : Int) + 1 - 1) = (pre.length : Int):=by rw [IntWalk.i64_in _ (by omega)]; omega
 have hw2 : IntKind.i64.wrap (pre.length : Int) = (pre.length : Int):=IntWalk.i64_in _ (by omega)
 have hw3 : IntKind.i64.wrap (a - 1) = a - 1:=IntWalk.i64_in _ (by omega)
 have hb0 : (0 : Int) ≤ (pre.length : Int):=by omega
 have hb1 : (pre.length : Int) < (pre.length : Int) + 1:=by omega
 have HPL:=Jh hpl
 clear hpl htl
 have HV : Hid (z05 (pre ++ [t]) c a = pre ++ [t] ++ [⟨3,bsOf [c],a⟩]):=by
  rw [Hid,z05,List.getLast?_concat]
  exact if_neg (fun h => by rw [h.2] at q; simp at q)
 generalize bsOf [c] = X at *
 obtain ⟨tk,tt,tp⟩:=t
 dsimp only at *
 subst hk
 go_enter Tryz.func194,Tryz.ntmps194
 go_upto_region 3 with fail
 clear c1
 obtain ⟨vv,hvv⟩ : ∃ vv,(Value.slice (some ⟨g,0,none⟩) (pre.length + 1) cp) = vv:=⟨_,rfl⟩
 have hown:=HOW.out
 have hh:=HH.out
 rw [hvv] at hown hh
 clear hvv HOW HH k0 k1 k2 k3
 have c1 : w.cell? ⟨cb,1,none⟩ = some vv:=Jc hh 1
 have HO1:=Jh hown
 have HQ:=Jh (fun w4 => z10 B cb src vv (pre ++ [⟨3,tt,tp⟩]) f w w4 (.cells #[.int .u8 3,.string X,.int .i64 a] 194) hB hBw hcl hh hown)
 have HHX:=Jh hh
 obtain ⟨i0,hi,hz0,hz1,hz2⟩:=info_parts Tryz.info194
 clear hown hh
 go_wp2_with (at_builtin; refine wpList_append_own_at _ rfl _ _ 186 rfl B 194 i0 _ 3 32 Tryz.underlying186 hi hz0 hz1 hz2 rfl (by decide) _ _ _ rfl (World.ownsRow.alloc (show World.ownsRow _ _ _ _ _ _ _ from HO1.out) _) _ 1 1 [.int .u8 3,.string X,.int .i64 a] rfl rfl (z0i _ _ _ _ _) ?c2 ?c3 ?c4 ?c5 ?_)
 case c2 => first | exact ⟨rfl,rfl,rfl⟩ | (intro u hu; simp at hu; rcases hu with rfl | rfl | rfl <;> rfl)
 case c3 => first | (simp only [maxLen,HPL.out]; omega) | (simp [maxLen]; omega) | (simp [maxLen]; omega)
 case c4 => first | (simp only [HPL.out]; omega) | omega | (simp; omega)
 case c5 => first | omega | (simp; omega)
 intro v' w4 hown' hgrow hnil hat
 obtain ⟨⟨y1,y2,y3,y4,y5⟩,y6,y7,y8⟩:=HQ.out w4 hgrow
 clear hgrow hnil hat
 have hO4:=z2i (l:=pre ++ [⟨3,tt,tp⟩]) (t:=⟨3,X,a⟩) (by rw [HPL.out]; exact hown')
 obtain ⟨a9,c9,rfl⟩:=z1y hown'
 clear hown'
 go_wp2_with fail
 go_end0
 rw [HV.out]
 exact ⟨rfl,⟨_,z1p y6 _,hO4.setOther y6 (by decide) _⟩,y7.setCell (p:=⟨cb,1,none⟩) hB _,y8.setCell ⟨cb,1,none⟩ rfl _⟩
theorem sign22_placeB (B cb : Nat) (src : ByteArray) (lv : Value) (pre : List Tok) (t : Tok) (f : Int) (c : UInt8) (hc : c.toNat < 128) (a : Int) (ha0 : 0 ≤ a) (ha1 : a ≤ 4096) (w : World) (hB : B ≤ cb) (hBw : B ≤ w.heap.size) (htl : (pre ++ [t]).length ≤ 4096)
 (h : w.heap[cb]? = some (.cells #[.string src,lv,.int .i64 f] 242 (0,0))) (hown : OwnT w B lv (pre ++ [t])) (d1 : ((c.toNat : Int) == 124) = false) (d2 : ((c.toNat : Int) == 38) = true) (hk : t.kind = 3) (hx : t.text = bsOf [c]) (q : (t.place == a - 1) = false) :
 Calls Tryz.prog 194 #[.pointer (some ⟨cb,0,none⟩),.int .i32 c.toNat,.int .i64 a] w fun e w' =>
  e = .returned (.tuple #[]) ∧ CutSt w' B cb src (z05 (pre ++ [t]) c a) f ∧ Below B w w' ∧ Lib.OthersKept 194 (some cb) w w':=by
 have hX : Utf8.encode (c.toNat : Int) = bsOf [c]:=z0v c hc
 have hcl : cb < w.heap.size:=(Array.getElem?_eq_some_iff.1 h).1
 have c1:=Jc h 1
 simp only [J9,J7,J8] at c1
 obtain ⟨g,cp,rfl,hg,hgl,k0,k1,k2,k3,k4⟩:=hown.last
 have HOW:=Jh hown
 have HH:=Jh h
 have HK4:=Jh k4
 clear h hown k4
 have hpl : (pre ++ [t]).length = pre.length + 1:=by simp
 have hp6 : pre.length ≤ 4096:=by rw [hpl] at htl; omega
 have hw1 : IntKind.i64.wrap ((pre.length : Int) + 1 - 1) = (pre.length : Int):=by rw [IntWalk.i64_in _ (by omega)]; omega
 have hw2 : IntKind.i64.wrap (pre.length : Int) = (pre.length : Int):=IntWalk.i64_in _ (by omega)
 have hw3 : IntKind.i64.wrap (a - 1) = a - 1:=IntWalk.i64_in _ (by omega)
 have hb0 : (0 : Int) ≤ (pre.length : Int):=by omega
 have hb1 : (pre.length : Int) < (pre.length : Int) + 1:=by omega
 have HPL:=Jh hpl
 clear hpl htl
 have HV : Hid (z05 (pre ++ [t]) c a = pre ++ [t] ++ [⟨3,bsOf [c],a⟩]):=by
  rw [Hid,z05,List.getLast?_concat]
  exact if_neg (fun h => by rw [h.2] at q; simp at q)
 generalize bsOf [c] = X at *
 obtain ⟨tk,tt,tp⟩:=t
 dsimp only at *
 subst hk
 have hx:=hx.symm
 subst hx
 go_enter Tryz.func194,Tryz.ntmps194
 go_upto_region 3 with fail
 clear c1
 obtain ⟨vv,hvv⟩ : ∃ vv,(Value.slice (some ⟨g,0,none⟩) (pre.length + 1) cp) = vv:=⟨_,rfl⟩
 have hown:=HOW.out
 have hh:=HH.out
 rw [hvv] at hown hh
 clear hvv HOW HH k0 k1 k2 k3
 have c1 : w.cell? ⟨cb,1,none⟩ = some vv:=Jc hh 1
 have HO1:=Jh hown
 have HQ:=Jh (fun w4 => z10 B cb src vv (pre ++ [⟨3,X,tp⟩]) f w w4 (.cells #[.int .u8 3,.string X,.int .i64 a] 194) hB hBw hcl hh hown)
 have HHX:=Jh hh
 obtain ⟨i0,hi,hz0,hz1,hz2⟩:=info_parts Tryz.info194
 clear hown hh
 go_wp2_with (at_builtin; refine wpList_append_own_at _ rfl _ _ 186 rfl B 194 i0 _ 3 32 Tryz.underlying186 hi hz0 hz1 hz2 rfl (by decide) _ _ _ rfl (World.ownsRow.alloc (show World.ownsRow _ _ _ _ _ _ _ from HO1.out) _) _ 1 1 [.int .u8 3,.string X,.int .i64 a] rfl rfl (z0i _ _ _ _ _) ?c2 ?c3 ?c4 ?c5 ?_)
 case c2 => first | exact ⟨rfl,rfl,rfl⟩ | (intro u hu; simp at hu; rcases hu with rfl | rfl | rfl <;> rfl)
 case c3 => first | (simp only [maxLen]; omega) | (simp [maxLen]; omega) | (simp [maxLen]; omega)
 case c4 => first | (simp only [HPL.out]; omega) | omega | (simp; omega)
 case c5 => first | omega | (simp; omega)
 intro v' w4 hown' hgrow hnil hat
 obtain ⟨⟨y1,y2,y3,y4,y5⟩,y6,y7,y8⟩:=HQ.out w4 hgrow
 clear hgrow hnil hat
 have hO4:=z2i (l:=pre ++ [⟨3,X,tp⟩]) (t:=⟨3,X,a⟩) (by rw [HPL.out]; exact hown')
 obtain ⟨a9,c9,rfl⟩:=z1y hown'
 clear hown'
 go_wp2_with fail
 go_end0
 rw [HV.out]
 exact ⟨rfl,⟨_,z1p y6 _,hO4.setOther y6 (by decide) _⟩,y7.setCell (p:=⟨cb,1,none⟩) hB _,y8.setCell ⟨cb,1,none⟩ rfl _⟩
theorem sign22_twoB (B cb : Nat) (src : ByteArray) (lv : Value) (pre : List Tok) (f : Int) (c : UInt8) (hc : c.toNat < 128) (a : Int) (ha0 : 0 ≤ a) (ha1 : a ≤ 4096) (w : World) (_hB : B ≤ cb) (_hBw : B ≤ w.heap.size) (htl : pre.length + 1 ≤ 4096)
 (h : w.heap[cb]? = some (.cells #[.string src,lv,.int .i64 f] 242 (0,0))) (hown : OwnT w B lv (pre ++ [⟨3,bsOf [c],a - 1⟩])) (htw : twin c = true) (d1 : ((c.toNat : Int) == 124) = false) (d2 : ((c.toNat : Int) == 38) = true) :
 Calls Tryz.prog 194 #[.pointer (some ⟨cb,0,none⟩),.int .i32 c.toNat,.int .i64 a] w fun e w' =>
  e = .returned (.tuple #[]) ∧ CutSt w' B cb src (z05 (pre ++ [⟨3,bsOf [c],a - 1⟩]) c a) f ∧ Below B w w' ∧ Lib.OthersKept 194 (some cb) w w':=by
 have hX : Utf8.encode (c.toNat : Int) = bsOf [c]:=z0v c hc
 have hcl : cb < w.heap.size:=(Array.getElem?_eq_some_iff.1 h).1
 have c1:=Jc h 1
 simp only [J9,J7,J8] at c1
 obtain ⟨g,cp,rfl,hg,hgl,k0,k1,k2,k3,k4⟩:=hown.last
 have HOW:=Jh hown
 have HH:=Jh h
 have HK4:=Jh k4
 clear h hown k4
 have hpl : (pre ++ [(⟨3,bsOf [c],a - 1⟩ : Tok)]).length = pre.length + 1:=by simp
 have hp6 : pre.length ≤ 4096:=by omega
 have hw1 : IntKind.i64.wrap ((pre.length : Int) + 1 - 1) = (pre.length : Int):=by rw [IntWalk.i64_in _ (by omega)]; omega
 have hw2 : IntKind.i64.wrap (pre.length : Int) = (pre.length : Int):=IntWalk.i64_in _ (by omega)
 have hw3 : IntKind.i64.wrap (a - 1) = a - 1:=IntWalk.i64_in _ (by omega)
 have hb0 : (0 : Int) ≤ (pre.length : Int):=by omega
 have hb1 : (pre.length : Int) < (pre.length : Int) + 1:=by omega
 have HPL:=Jh hpl
 clear hpl htl
 have HV : Hid (z05 (pre ++ [⟨3,bsOf [c],a - 1⟩]) c a = pre ++ [⟨3,bsOf [c,c],a - 1⟩]):=by
  rw [Hid,z05,List.getLast?_concat]
  simp only [List.dropLast_concat]
  exact if_pos ⟨htw,trivial⟩
 have hsz : (bsOf [c]).size = 1:=by rw [bsOf_size']; rfl
 have hadd : ∀ W,(Op.stringOp .add (bsOf [c]) (bsOf [c])).run Tryz.prog W = .ok (.string (bsOf [c,c])) W:=fun W => by
  rw [run_string_add_sum W _ _ (by omega)]; rfl
 dsimp only at k0 k1 k2
 have hne:=own_ne HOW.out HH.out (by decide)
 have hgc : g ≠ cb:=fun e => hne (by rw [e]; rfl)
 generalize bsOf [c,c] = Y at *
 generalize bsOf [c] = X at *
 clear hne hsz
 go_enter Tryz.func194,Tryz.ntmps194
 go_wp2_with fail
 refine bodyPost_ret (results_none rfl _ _ _) rfl ?_
 rw [HV.out]
 exact ⟨rfl,⟨_,(Below.heap_setCell _ _ _ _ (fun e => hgc e.symm)).trans HH.out,HK4.out Y⟩,(Below.refl B w).setCell (p:=⟨g,pre.length * 3 + 1,none⟩) hg _,frame_own HOW.out _⟩
theorem sign22_any (B cb : Nat) (src : ByteArray) (toks : List Tok) (f : Int) (c : UInt8) (hc : c.toNat < 128) (a : Int) (ha0 : 0 ≤ a) (ha1 : a ≤ 4096) (w : World) (hB : B ≤ cb) (hBw : B ≤ w.heap.size) (htl : toks.length ≤ 4096)
 (h : CutSt w B cb src toks f) :
 Calls Tryz.prog 194 #[.pointer (some ⟨cb,0,none⟩),.int .i32 c.toNat,.int .i64 a] w fun e w' =>
  e = .returned (.tuple #[]) ∧ CutSt w' B cb src (z05 toks c a) f ∧ Below B w w' ∧ Lib.OthersKept 194 (some cb) w w':=by
 obtain ⟨lv,h,hown⟩:=h
 rcases List.eq_nil_or_concat toks with rfl | ⟨pre,t,rfl⟩
 ·exact sign22_nil B cb src lv trivial f c hc a ha0 ha1 w hB hBw (by omega) h hown
 ·rw [List.concat_eq_append] at *
  cases htw : twin c with
  | false => exact sign22_plain B cb src lv pre t f c hc a ha0 ha1 w hB hBw htl h hown htw
  | true =>
   by_cases hk : t.kind = 3
   ·by_cases hx : t.text = bsOf [c]
    ·by_cases hp : t.place = a - 1
     ·obtain ⟨tk,tt,tp⟩:=t
      dsimp only at hk hx hp
      subst hk; subst hx; subst hp
      by_cases e : c.toNat = 124
      ·exact sign22_twoA B cb src lv pre f c hc a ha0 ha1 w hB hBw (by simpa using htl) h hown htw (by simp; omega)
      ·have e2 : c.toNat = 38:=by simp only [twin,Bool.or_eq_true,beq_iff_eq] at htw; omega
       exact sign22_twoB B cb src lv pre f c hc a ha0 ha1 w hB hBw (by simpa using htl) h hown htw (by simp; omega) (by simp; omega)
     ·by_cases e : c.toNat = 124
      ·exact sign22_placeA B cb src lv pre t f c hc a ha0 ha1 w hB hBw htl h hown (by simp; omega) hk hx (by simpa using hp)
      ·have e2 : c.toNat = 38:=by simp only [twin,Bool.or_eq_true,beq_iff_eq] at htw; omega
       exact sign22_placeB B cb src lv pre t f c hc a ha0 ha1 w hB hBw htl h hown (by simp; omega) (by simp; omega) hk hx (by simpa using hp)
    ·have q : (t.text.toList == (bsOf [c]).toList) = false:=by simpa using fun h => hx (z54 h)
     by_cases e : c.toNat = 124
     ·exact sign22_textA B cb src lv pre t f c hc a ha0 ha1 w hB hBw htl h hown (by simp; omega) hk q
     ·have e2 : c.toNat = 38:=by simp only [twin,Bool.or_eq_true,beq_iff_eq] at htw; omega
      exact sign22_textB B cb src lv pre t f c hc a ha0 ha1 w hB hBw htl h hown (by simp; omega) (by simp; omega) hk q
   ·by_cases e : c.toNat = 124
    ·exact sign22_kindA B cb src lv pre t f c hc a ha0 ha1 w hB hBw htl h hown (by simp; omega) (by simpa using hk)
    ·have e2 : c.toNat = 38:=by simp only [twin,Bool.or_eq_true,beq_iff_eq] at htw; omega
     exact sign22_kindB B cb src lv pre t f c hc a ha0 ha1 w hB hBw htl h hown (by simp; omega) (by simp; omega) (by simpa using hk)
end Go.Proofs.YtockinpjfhhkoaaGreatDoor
