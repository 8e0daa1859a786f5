/- Cutting byte by byte, with the last sign held open and a row's beginning kept, comes to the plain cut: no program in sight. -/
import Derived.Test.YtockinpjfhhkoaaGreatDoorZ00
import Derived.Test.YtockinpjfhhkoaaGreatDoorZ17
import Derived.Lib.TrimU
import Derived.WalkMore
import Derived.Test.YtockinpjfhhkoaaGreatDoorZ16
set_option maxRecDepth 100000
set_option maxHeartbeats 16000000
open List renaming getElem?_cons_zero → J7, getElem?_cons_succ → J8, getElem?_toArray → J9
open Go.Lib renaming cell_of_heap → Jc, frozen_of_heap → Jf, hid → Jh
open Go.RowKit.Below renaming heap_alloc → Jb
namespace Go.Proofs.YtockinpjfhhkoaaGreatDoor
def Inv (src : List UInt8) (i : Nat) (toks : List Tok) (f : Int) : Prop :=
 (f = -1 ∧ toks.length ≤ i ∧ (∀ t ∈ toks,t.place < (i : Int)) ∧ Res.app toks (cut i (src.drop i)) = cut 0 src ∧ ∀ c r,src.drop i = c :: r → twin c = true → toks.getLast? ≠ some ⟨3,bsOf [c],(i : Int) - 1⟩) ∨
 (f = -1 ∧ ∃ pre c j,i = j + 1 ∧ twin c = true ∧ toks = pre ++ [⟨3,bsOf [c],(j : Int)⟩] ∧ pre.length ≤ j ∧ (∀ t ∈ pre,t.place < (j : Int)) ∧ src.drop j = c :: src.drop i ∧ Res.app pre (cut j (src.drop j)) = cut 0 src) ∨
 (∃ s : Nat,f = s ∧ s < i ∧ toks.length ≤ s ∧ (∀ t ∈ toks,t.place < (s : Int)) ∧ ((src.drop s).take (i - s)).all z0a = true ∧ i ≤ src.length ∧ Res.app toks (cut s (src.drop s)) = cut 0 src)
theorem inv_start (src : List UInt8) : Inv src 0 [] (-1):=.inl ⟨rfl,by simp,by simp,Res.app_nil _,by simp⟩
theorem inv_len {src : List UInt8} {i : Nat} {toks : List Tok} {f : Int} (h : Inv src i toks f) : toks.length ≤ i:=by
 rcases h with ⟨_,h,_⟩ | ⟨_,pre,c,j,rfl,_,rfl,h,_⟩ | ⟨s,_,h1,h2,_⟩
 ·exact h
 ·simp; omega
 ·omega
theorem inv_from {src : List UInt8} {i : Nat} {toks : List Tok} {f : Int} (h : Inv src i toks f) : f = -1 ∨ ∃ s : Nat,f = s ∧ s < i:=by
 rcases h with ⟨h,_⟩ | ⟨h,_⟩ | ⟨s,h,h1,_⟩
 ·exact .inl h
 ·exact .inl h
 ·exact .inr ⟨s,h,h1⟩
theorem twin_not_row {c : UInt8} (h : twin c = true) : z0a c = false ∧ z0l c = false ∧ z0n c = true :=
 ⟨(sign_row c).1 ((sign_row c).2.2.2.1 h),(sign_row c).2.2.2.2.1 ((sign_row c).2.2.2.1 h),(sign_row c).2.2.2.1 h⟩
theorem cut_twin_one {c b : UInt8} {r : List UInt8} (a : Nat) (hc : twin c = true) (hb : b ≠ c) : cut a (c :: b :: r) = Res.cons ⟨3,bsOf [c],a⟩ (cut (a + 1) (b :: r)):=by
 obtain ⟨h1,h2,h3⟩:=twin_not_row hc
 exact z5d a c (b :: r) h1 h2 h3 (by simp [hb])
theorem z3n {src : List UInt8} {i : Nat} {toks : List Tok} {b : UInt8} {r : List UInt8} (h : Inv src i toks (-1)) (hd : src.drop i = b :: r) :
 (toks.length ≤ i ∧ (∀ t ∈ toks,t.place < (i : Int)) ∧ Res.app toks (cut i (src.drop i)) = cut 0 src ∧ (twin b = true → toks.getLast? ≠ some ⟨3,bsOf [b],(i : Int) - 1⟩)) ∨
 (twin b = true ∧ ∃ pre j,i = j + 1 ∧ toks = pre ++ [⟨3,bsOf [b],(j : Int)⟩] ∧ pre.length ≤ j ∧ (∀ t ∈ pre,t.place < (j : Int)) ∧ src.drop j = b :: src.drop i ∧ Res.app pre (cut j (src.drop j)) = cut 0 src):=by
 rcases h with ⟨_,h1,h2,h3,h4⟩ | ⟨_,pre,c,j,rfl,hc,rfl,h5,h6,h7,h8⟩ | ⟨s,hs,_⟩
 ·exact .inl ⟨h1,h2,h3,fun ht => h4 b r hd ht⟩
 ·by_cases hbc : b = c
  ·subst hbc
   exact .inr ⟨hc,pre,j,rfl,rfl,h5,h6,h7,h8⟩
  ·left
   refine ⟨by simp; omega,?_,?_,?_⟩
   ·intro t ht
    rcases List.mem_append.1 ht with ht | ht
    ·have:=h6 t ht; push_cast; omega
    ·rw [List.mem_singleton] at ht; subst ht; push_cast; omega
   ·rw [h7,hd,cut_twin_one j hc hbc,Res.app_cons] at h8
    rw [hd]; exact h8
   ·intro _
    rw [List.getLast?_concat]
    intro he
    simp only [Option.some.injEq,Tok.mk.injEq] at he
    have:=bsOf_inj he.2.1
    simp at this
    exact hbc this.symm
 ·omega
theorem take_row_succ {l : List UInt8} {b : UInt8} {r : List UInt8} {s i : Nat} (hs : s < i) (hd : l.drop i = b :: r) (h : ((l.drop s).take (i - s)).all z0a = true) (hb : z0a b = true) : ((l.drop s).take (i + 1 - s)).all z0a = true:=by
 have hi : i < l.length:=by
  rcases Nat.lt_or_ge i l.length with h | h
  ·exact h
  ·rw [List.drop_of_length_le h] at hd; cases hd
 have he : l[i] = b:=by
  rw [List.drop_eq_getElem_cons hi] at hd; exact (List.cons.inj hd).1
 rw [show i + 1 - s = (i - s) + 1 by omega,List.take_succ_eq_append_getElem (by rw [List.length_drop]; omega)]
 simp only [List.all_append,h,List.all_cons,List.all_nil,Bool.and_true,Bool.true_and,List.getElem_drop]
 simp only [show s + (i - s) = i by omega,he,hb]
theorem inv_row {src : List UInt8} {i : Nat} {toks : List Tok} {f : Int} {b : UInt8} {r : List UInt8} (h : Inv src i toks f) (hd : src.drop i = b :: r) (hb : z0a b = true) :
 Inv src (i + 1) toks (if f < 0 then (i : Int) else f):=by
 have hi : i < src.length:=by
  rcases Nat.lt_or_ge i src.length with h | h
  ·exact h
  ·rw [List.drop_of_length_le h] at hd; cases hd
 rcases inv_from h with rfl | ⟨s,rfl,_⟩
 ·rw [if_pos (by decide)]
  rcases z3n h hd with ⟨h1,h2,h3,_⟩ | ⟨ht,_⟩
  ·refine .inr (.inr ⟨i,rfl,by omega,h1,h2,?_,by omega,h3⟩)
   rw [show i + 1 - i = 1 by omega,hd]; simp [hb]
  ·rw [(twin_not_row ht).1] at hb; cases hb
 ·rw [if_neg (by omega)]
  rcases h with ⟨h,_⟩ | ⟨h,_⟩ | ⟨s',hs',h1,h2,h3,h4,h5,h6⟩
  ·omega
  ·omega
  ·have : s' = s:=by omega
   subst this
   exact .inr (.inr ⟨s',rfl,by omega,h2,h3,take_row_succ h1 hd h4 hb,by omega,h6⟩)
theorem rowOf_take {l : List UInt8} {s i : Nat} (hs : s < i) (hi : i ≤ l.length) (h : ((l.drop s).take (i - s)).all z0a = true) (hn : (l.drop i).head?.map z0a ≠ some true) : z0y (l.drop s) = (l.drop s).take (i - s) ∧ (l.drop s).drop (z0y (l.drop s)).length = l.drop i ∧ (z0y (l.drop s)).length = i - s:=by
 have e : l.drop s = (l.drop s).take (i - s) ++ l.drop i:=by
  conv => lhs; rw [← List.take_append_drop (i - s) (l.drop s)]
  rw [List.drop_drop,show s + (i - s) = i by omega]
 have h1 : z0y (l.drop s) = (l.drop s).take (i - s):=by
  conv => lhs; rw [e]
  exact z5j _ _ h hn
 have h2 : (z0y (l.drop s)).length = i - s:=by rw [h1,List.length_take,List.length_drop]; omega
 exact ⟨h1,by rw [h2,List.drop_drop,show s + (i - s) = i by omega],h2⟩
theorem inv_end {src : List UInt8} {i s : Nat} {toks : List Tok} (h : Inv src i toks s) (hn : (src.drop i).head?.map z0a ≠ some true) :
 s < i ∧ i ≤ src.length ∧ match z0k ((src.drop s).take (i - s)) with
  | .error e => cut 0 src = .bad s e
  | .ok k => Inv src i (toks ++ [⟨k,bsOf ((src.drop s).take (i - s)),(s : Int)⟩]) (-1):=by
 rcases h with ⟨h,_⟩ | ⟨h,_⟩ | ⟨s',hs',h1,h2,h3,h4,h5,h6⟩
 ·omega
 ·omega
 ·have : s' = s:=by omega
  subst this
  refine ⟨h1,h5,?_⟩
  obtain ⟨r1,r2,r3⟩:=rowOf_take h1 h5 h4 hn
  have hsl : s' < src.length:=by omega
  have hd:=List.drop_eq_getElem_cons hsl
  have hb : z0a src[s'] = true:=by
   have:=h4
   rw [hd,show i - s' = (i - s' - 1) + 1 by omega,List.take_succ_cons,List.all_cons,Bool.and_eq_true] at this
   exact this.1
  have hc:=cut_row s' src[s'] (src.drop (s' + 1)) hb
  rw [← hd,r1] at hc
  cases hk : z0k ((src.drop s').take (i - s')) with
  | error e =>
   rw [hk] at hc
   simp only at hc ⊢
   rw [← h6,hc]; rfl
  | ok k =>
   rw [hk] at hc
   simp only at hc ⊢
   rw [← r1,r2,r3,r1] at hc
   refine .inl ⟨rfl,by simp; omega,?_,?_,?_⟩
   ·intro t ht
    rcases List.mem_append.1 ht with ht | ht
    ·have:=h3 t ht; omega
    ·rw [List.mem_singleton] at ht; subst ht; simp only; omega
   ·rw [← h6,hc,Res.app_cons,show s' + (i - s') = i by omega]
   ·intro c r _ _
    rw [List.getLast?_concat]
    intro he
    simp only [Option.some.injEq,Tok.mk.injEq] at he
    rcases z6g hk with h | h <;> rw [h] at he <;> exact absurd he.1 (by decide)
theorem inv_blank {src : List UInt8} {i : Nat} {toks : List Tok} {b : UInt8} {r : List UInt8} (h : Inv src i toks (-1)) (hd : src.drop i = b :: r) (hb : z0l b = true) (hr : z0a b = false) : Inv src (i + 1) toks (-1):=by
 have hd2 : src.drop (i + 1) = r:=by rw [← List.drop_drop,hd]; rfl
 rcases z3n h hd with ⟨h1,h2,h3,_⟩ | ⟨ht,_⟩
 ·refine .inl ⟨rfl,by omega,fun t ht => by have:=h2 t ht; push_cast; omega,?_,?_⟩
  ·rw [← h3,hd,hd2,z4p i b r hr hb]
  ·intro c r' _ _ he
   have:=h2 _ (List.mem_of_getLast? he)
   simp at this
 ·rw [(twin_not_row ht).2.1] at hb; cases hb
theorem inv_wrong {src : List UInt8} {i : Nat} {toks : List Tok} {b : UInt8} {r : List UInt8} (h : Inv src i toks (-1)) (hd : src.drop i = b :: r) (hb : z0l b = false) (hr : z0a b = false) (hs : z0n b = false) : cut 0 src = .bad i 150:=by
 rcases z3n h hd with ⟨h1,h2,h3,_⟩ | ⟨ht,_⟩
 ·rw [← h3,hd,z6w i b r hr hb hs]; rfl
 ·rw [(twin_not_row ht).2.2] at hs; cases hs
theorem inv_sign {src : List UInt8} {i : Nat} {toks : List Tok} {b : UInt8} {r : List UInt8} (h : Inv src i toks (-1)) (hd : src.drop i = b :: r) (hs : z0n b = true) : Inv src (i + 1) (z05 toks b i) (-1):=by
 have hd2 : src.drop (i + 1) = r:=by rw [← List.drop_drop,hd]; rfl
 have hr:=(sign_row b).1 hs
 have hb:=(sign_row b).2.2.2.2.1 hs
 rcases z3n h hd with ⟨h1,h2,h3,h4⟩ | ⟨ht,pre,j,rfl,rfl,h5,h6,h7,h8⟩
 ·have hst : z05 toks b i = toks ++ [⟨3,bsOf [b],(i : Int)⟩]:=by
   unfold z05
   cases hl : toks.getLast? with
   | none => rfl
   | some t =>
    simp only
    rw [if_neg]
    rintro ⟨ht,rfl⟩
    exact h4 ht hl
  rw [hst]
  have hpl : ∀ t ∈ toks ++ [⟨3,bsOf [b],(i : Int)⟩],t.place < ((i + 1 : Nat) : Int):=by
   intro t ht
   rcases List.mem_append.1 ht with ht | ht
   ·have:=h2 t ht; push_cast; omega
   ·rw [List.mem_singleton] at ht; subst ht; push_cast; omega
  cases htw : twin b with
  | true => exact .inr (.inl ⟨rfl,toks,b,i,rfl,htw,rfl,h1,h2,by rw [hd,hd2],h3⟩)
  | false =>
   refine .inl ⟨rfl,by simp; omega,hpl,?_,?_⟩
   ·rw [← h3,hd,hd2,z5d i b r hr hb hs (by simp [htw]),Res.app_cons]
   ·intro c r' _ hc
    rw [List.getLast?_concat]
    intro he
    simp only [Option.some.injEq,Tok.mk.injEq] at he
    have:=bsOf_inj he.2.1
    simp at this
    rw [this,hc] at htw; cases htw
 ·have hst : z05 (pre ++ [⟨3,bsOf [b],(j : Int)⟩]) b ((j + 1 : Nat) : Int) = pre ++ [⟨3,bsOf [b,b],(j : Int)⟩]:=by
   unfold z05
   rw [List.getLast?_concat]
   simp only [List.dropLast_concat]
   have e : ((j + 1 : Nat) : Int) - 1 = j:=by push_cast; omega
   rw [e,if_pos ⟨ht,rfl⟩]
  rw [hst]
  refine .inl ⟨rfl,by simp; omega,?_,?_,?_⟩
  ·intro t ht
   rcases List.mem_append.1 ht with ht | ht
   ·have:=h6 t ht; push_cast; omega
   ·rw [List.mem_singleton] at ht; subst ht; push_cast; omega
  ·rw [← h8,h7,hd,hd2,cut_two j b r ht,Res.app_cons]
  ·intro c r' _ _
   rw [List.getLast?_concat]
   intro he
   simp only [Option.some.injEq,Tok.mk.injEq] at he
   have:=bsOf_inj he.2.1
   simp at this
theorem inv_done {src : List UInt8} {i : Nat} {toks : List Tok} (h : Inv src i toks (-1)) (hd : src.drop i = []) : cut 0 src = .ok toks:=by
 rcases h with ⟨_,h1,h2,h3,h4⟩ | ⟨_,pre,c,j,rfl,hc,rfl,h5,h6,h7,h8⟩ | ⟨s,hs,_⟩
 ·rw [← h3,hd]; simp [Res.app]
 ·obtain ⟨k1,k2,k3⟩:=twin_not_row hc
  rw [← h8,h7,hd,z5d j c [] k1 k2 k3 (by simp),Res.app_cons]
  simp [Res.app]
 ·omega
open Go.RowKit Go.Shelf
attribute [local go_sem ↓] Go.wp_at_zero Go.wp_at_succ
theorem rune_fin : ∀ i : Fin 128,((2 ≤ z43 i.val) ↔ z0a (UInt8.ofNat i.val) = true) ∧ ((z43 i.val = 1) ↔ z0l (UInt8.ofNat i.val) = true):=by decide +kernel
theorem z69 : ∀ i : Fin 256,128 ≤ i.val → z0a (UInt8.ofNat i.val) = false ∧ z0l (UInt8.ofNat i.val) = false ∧ z0n (UInt8.ofNat i.val) = false:=by decide +kernel
theorem rune_facts (s : ByteArray) (i : Nat) (h : i < s.size) (b : UInt8) (hb : s[i]'h = b) :
 ((2 ≤ z43 ((Utf8.decode s i).1 : Nat)) ↔ z0a b = true) ∧ ((z43 ((Utf8.decode s i).1 : Nat) = 1) ↔ z0l b = true) ∧
 ((decide ((((Utf8.decode s i).1 : Nat) : Int) < 128) && z0n (((Utf8.decode s i).1 : Nat) : Int).toNat.toUInt8) = z0n b) ∧
 ((z0a b = true ∨ z0l b = true ∨ z0n b = true) → (Utf8.decode s i).1 = b.toNat ∧ (Utf8.decode s i).2 = 1 ∧ b.toNat < 128) ∧ (Utf8.decode s i).1 ≤ 1114111:=by
 refine ⟨?_,?_,?_,?_,Lib.rune_le s i⟩
 all_goals by_cases ha : b.toNat < 128
 ·have:=(rune_fin ⟨b.toNat,ha⟩).1
  rw [decode_ascii s i h (by rw [hb]; exact ha),hb]
  simpa using this
 ·have h1:=(decode_high s i h (by rw [hb]; omega)).1
  have h2:=(z69 ⟨b.toNat,b.toNat_lt⟩ (by show 128 ≤ b.toNat; omega)).1
  simp only [UInt8.ofNat_toNat] at h2
  rw [h2]
  constructor
  ·intro hk; exfalso; unfold z43 at hk; omega
  ·intro hk; cases hk
 ·have:=(rune_fin ⟨b.toNat,ha⟩).2
  rw [decode_ascii s i h (by rw [hb]; exact ha),hb]
  simpa using this
 ·have h1:=(decode_high s i h (by rw [hb]; omega)).1
  have h2:=(z69 ⟨b.toNat,b.toNat_lt⟩ (by show 128 ≤ b.toNat; omega)).2.1
  simp only [UInt8.ofNat_toNat] at h2
  rw [h2]
  constructor
  ·intro hk; exfalso; unfold z43 at hk; omega
  ·intro hk; cases hk
 ·rw [decode_ascii s i h (by rw [hb]; exact ha),hb]
  have : decide (((b.toNat : Nat) : Int) < 128) = true:=by simp; omega
  rw [this]; simp
 ·have h1:=(decode_high s i h (by rw [hb]; omega)).1
  have h2:=(z69 ⟨b.toNat,b.toNat_lt⟩ (by show 128 ≤ b.toNat; omega)).2.2
  simp only [UInt8.ofNat_toNat] at h2
  have : decide ((((Utf8.decode s i).1 : Nat) : Int) < 128) = false:=by simp; omega
  rw [this,h2]; rfl
 ·intro _
  rw [decode_ascii s i h (by rw [hb]; exact ha),hb]
  exact ⟨rfl,rfl,ha⟩
 ·intro hh
  have h2:=z69 ⟨b.toNat,b.toNat_lt⟩ (by show 128 ≤ b.toNat; omega)
  simp only [UInt8.ofNat_toNat] at h2
  rcases hh with hh | hh | hh
  ·rw [h2.1] at hh; cases hh
  ·rw [h2.2.1] at hh; cases hh
  ·rw [h2.2.2] at hh; cases hh
theorem CutSt.below {w w' : World} {B cb : Nat} {src : ByteArray} {toks : List Tok} {f : Int} (h : CutSt w B cb src toks f) (hb : Below w.heap.size w w') : CutSt w' B cb src toks f:=by
 obtain ⟨lv,h1,h2⟩:=h
 exact ⟨lv,(hb.block cb (Array.getElem?_eq_some_iff.1 h1).1).trans h1,h2.below hb⟩
theorem CutSt.iter {w : World} {B cb k pos pos' : Nat} {src s : ByteArray} {toks : List Tok} {f : Int} (h : CutSt w B cb src toks f) (hk : w.heap[k]? = some (.stringIter s pos)) : CutSt (w.iterAt k s pos') B cb src toks f:=by
 obtain ⟨lv,h1,h2⟩:=h
 have hne : cb ≠ k:=by rintro rfl; rw [hk] at h1; cases h1
 refine ⟨lv,by rw [Lib.iterAt_other _ _ _ _ _ hne]; exact h1,?_⟩
 refine World.ownsRow.kept h2 (row:=some k) ⟨rfl,rfl,rfl,by rw [Lib.iterAt_size]; exact Nat.le_refl _,fun j _ hj => Lib.iterAt_other _ _ _ _ _ (fun e => hj (by rw [e]))⟩ (Or.inr ?_)
 intro he
 obtain ⟨c,fz,hc⟩:=z63 h2 k he
 rw [hk] at hc; cases hc
theorem CutSt.from_ {w : World} {B cb : Nat} {src : ByteArray} {toks : List Tok} {f : Int} (h : CutSt w B cb src toks f) (x : Int) : CutSt (w.setCell ⟨cb,2,none⟩ (.int .i64 x)) B cb src toks x:=by
 obtain ⟨lv,h1,h2⟩:=h
 exact ⟨lv,heap_setCell_same _ _ _ _ _ _ h1,h2.setOther h1 (by decide) _⟩
theorem rowR_take (s : ByteArray) (f i : Nat) : rowR (s.extract f i) = match z0k ((s.data.toList.drop f).take (i - f)) with
 | .ok k => (⟨k,bsOf ((s.data.toList.drop f).take (i - f)),0⟩,0)
 | .error e => (z58,e):=by
 rw [Lib.extract_eq]
 unfold rowR
 rw [show (⟨((s.data.toList.drop f).take (i - f)).toArray⟩ : ByteArray).data.toList = (s.data.toList.drop f).take (i - f) by simp]
 rfl
theorem z2y {l : List UInt8} {e : Int} (h : z0k l = .error e) : e ≠ 0:=by
 cases l with
 | nil => simp only [z0k,Except.error.injEq] at h; omega
 | cons b r =>
  simp only [z0k] at h
  split at h
  ·split at h <;> simp at h; omega
  ·split at h <;> simp at h; omega
theorem end21_inv (cb : Nat) (s : ByteArray) (toks : List Tok) (f : Int) (i : Nat) (w : World) (B : Nat) (hB : B ≤ cb) (hBw : B ≤ w.heap.size) (hr : Rdy w) (hs : s.size ≤ 4096) (hi : i ≤ s.size)
 (hn : (s.data.toList.drop i).head?.map z0a ≠ some true) (hst : CutSt w B cb s toks f) (hI : Inv s.data.toList i toks f) :
 Calls Tryz.prog 193 #[.pointer (some ⟨cb,0,none⟩),.int .i64 (i : Int)] w fun e w' =>
  ((∃ toks',e = .returned (.int .i64 0) ∧ CutSt w' B cb s toks' (-1) ∧ Inv s.data.toList i toks' (-1)) ∨
   (∃ (n : Nat) (er : Int),e = .returned (.int .i64 er) ∧ er ≠ 0 ∧ CutSt w' B cb s toks n ∧ cut 0 s.data.toList = .bad n er)) ∧ Below B w w' ∧ Lib.OthersKept 194 (some cb) w w':=by
 rcases inv_from hI with rfl | ⟨n,rfl,hni⟩
 ·obtain ⟨lv,h1,h2⟩:=hst
  refine (end21_none cb s lv (-1) i w (by decide) h1).mono ?_
  rintro e w' ⟨rfl,rfl⟩
  exact ⟨.inl ⟨toks,rfl,⟨lv,h1,h2⟩,hI⟩,Below.refl _ _,Lib.OthersKept.refl _ _ _⟩
 ·obtain ⟨lv,h1,h2⟩:=hst
  have hl:=inv_len hI
  refine (end21_row B cb s lv toks n i w hB hBw hr hni hi hs (by omega) h1 h2).mono ?_
  rintro e w' ⟨⟨rfl,hc⟩,hb,hk⟩
  refine ⟨?_,hb,hk⟩
  obtain ⟨_,_,hE⟩:=inv_end hI hn
  rw [rowR_take] at hc ⊢
  cases hrk : z0k ((s.data.toList.drop n).take (i - n)) with
  | error er =>
   rw [hrk] at hE hc
   simp only at hE hc ⊢
   rw [if_neg (z2y hrk)] at hc
   exact .inr ⟨n,er,rfl,z2y hrk,hc,hE⟩
  | ok k =>
   rw [hrk] at hE hc
   simp only [if_true] at hE hc ⊢
   exact .inl ⟨_,by first | rfl | trivial,hc,hE⟩
theorem cut9_any (s : ByteArray) (w : World) (hr : Rdy w) : Calls Tryz.prog 126 #[.string s] w fun e w' =>
 (∃ v',e = .returned (.tuple #[v',.int .i64 (cutR s).2.1,.int .i64 (cutR s).2.2]) ∧ OwnT w' w.heap.size v' (cutR s).1) ∧ Below w.heap.size w w':=by
 by_cases h4 : 4096 < s.size
 ·have HE : Hid (cutR s = ([],0,3)):=by rw [Hid,cutR,if_pos h4]
  have h4' : (4096 : Int) < (s.size : Int):=by omega
  go_enter Tryz.func126,Tryz.ntmps126
  go_wp2_with fail
  go_step3
  go_wp2_with fail
  rw [Exit.noGoto_ret]
  try go_wp2_with fail
  go_ret3
  have hE:=HE.out
  rw [hE]
  exact ⟨⟨_,rfl,World.ownsRow_nil _ _ _ _⟩,Below.refl _ _⟩
 ·have hs4 : s.size ≤ 4096:=by omega
  have h4' : ¬ (4096 : Int) < (s.size : Int):=by omega
  have HS:=z3b s
  have HRD:=Jh hr
  clear h4 hr
  go_enter Tryz.func126,Tryz.ntmps126
  go_wp2_with fail
  go_step3
  go_wp2_with fail
  go_step3
  go_wp2_with fail
  go_loopw [] (fun wr => ∃ (i : Nat) (toks : List Tok) (f : Int),i ≤ s.size ∧ Hid (CutSt wr w.heap.size w.heap.size s toks f) ∧ wr.heap[w.heap.size + 1]? = some (.stringIter s i) ∧ Below w.heap.size w wr ∧ Hid (Inv s.data.toList i toks f)) (fun wr => s.size - wr.iterPos (w.heap.size + 1))
  case atStart =>
   refine ⟨0,[],-1,by omega,⟨.slice none 0 0,?_,World.ownsRow_nil _ _ _ _⟩,?_,((Below.refl _ w).alloc (Nat.le_refl _) _).alloc (by simp) _,inv_start _⟩
   ·refine Eq.trans (Jb (w.alloc (.cells #[.string s,.slice none 0 0,.int .i64 (-1)] 242)) _ w.heap.size ?_) Array.getElem?_push_size
    show w.heap.size < (w.heap.push _).size
    simp
   ·have:=World.iter_heap (w.alloc (.cells #[.string s,.slice none 0 0,.int .i64 (-1)] 242)) s 0
    simpa using this
  case round =>
   obtain ⟨i,toks,f,hi,HC,hit,hbw,HI⟩:=hrel
   have hsz : w.heap.size + 1 < wr.heap.size:=(Array.getElem?_eq_some_iff.1 hit).1
   by_cases hp : i < s.size
   ·have hg:=z2l s i hp
    obtain ⟨b,hbb⟩ : ∃ b,s[i]'hp = b:=⟨_,rfl⟩
    rw [hbb] at hg
    have HD : Hid (s.data.toList.drop i = b :: s.data.toList.drop (i + 1)):=by
     rw [Hid,List.drop_eq_getElem_cons (by rw [HS]; exact hp),← hg]
    obtain ⟨r1,r2,r3,r4,r5⟩:=rune_facts s i hp b hbb
    have hnx : ∀ ty,(Instr.next (.pointer (some ⟨w.heap.size + 1,0,none⟩)) true ty).run Tryz.prog wr = _:=fun ty => Lib.run_next_any_at wr (w.heap.size + 1) s i ty hit hp
    have HC1 : Hid (CutSt (wr.iterAt (w.heap.size + 1) s (i + (Utf8.decode s i).2)) w.heap.size w.heap.size s toks f):=HC.out.iter hit
    have hit1:=Lib.iterAt_heap wr (w.heap.size + 1) s i (i + (Utf8.decode s i).2) hit
    have hbw1:=Lib.below_iterAt hbw (k:=w.heap.size + 1) (by omega) s (i + (Utf8.decode s i).2)
    have hsz1 : w.heap.size + 1 < (wr.iterAt (w.heap.size + 1) s (i + (Utf8.decode s i).2)).heap.size:=by rw [Lib.iterAt_size]; exact hsz
    have hpos : s.size - wr.iterPos (w.heap.size + 1) = s.size - i:=by simp only [World.iterPos,hit]
    have HPOS:=Jh hpos
    clear hg hbb hpos HC hbw hit hsz
    generalize wr.iterAt (w.heap.size + 1) s (i + (Utf8.decode s i).2) = W1 at hnx HC1 hit1 hbw1 hsz1
    generalize (Utf8.decode s i).2 = wd at r4 hit1
    generalize (Utf8.decode s i).1 = r at r1 r2 r3 r4 r5 hnx
    cases hrow : z0a b with
    | true =>
     obtain ⟨rfl,rfl,hb128⟩:=r4 (.inl hrow)
     have hk2 : (2 : Int) ≤ z43 (b.toNat : Nat):=r1.2 hrow
     have HN : Hid (Inv s.data.toList (i + 1) toks (if f < 0 then (i : Int) else f)):=inv_row HI.out HD.out hrow
     clear r1 r2 r3 r4 r5 hrow
     obtain ⟨lv,hcb,hown⟩:=HC1.out
     have c2:=Jc hcb 2
     have f2:=Jf hcb 2
     simp only [J9,J7,J8] at c2
     clear hcb hown
     by_cases hf : f < 0
     ·rw [if_pos hf] at HN
      go_wp2_with (go_at_call 195; refine (z3m _ _).mono ?_; rintro e w' ⟨rfl,rfl⟩)
      have hit3 : (w'.setCell ⟨w.heap.size,2,none⟩ (.int .i64 (i : Int))).heap[w.heap.size + 1]? = some (.stringIter s (i + 1)):=(Below.heap_setCell _ _ _ _ (by simp)).trans hit1
      refine ⟨⟨i + 1,toks,i,by omega,HC1.out.from_ _,hit3,hbw1.setCell (p:=⟨w.heap.size,2,none⟩) (Nat.le_refl _) _,HN⟩,?_⟩
      rw [HPOS.out]
      simp only [World.iterPos,hit3]
      omega
     ·rw [if_neg hf] at HN
      have hf' : ¬ f < 0:=hf
      go_wp2_with (go_at_call 195; refine (z3m _ _).mono ?_; rintro e w' ⟨rfl,rfl⟩)
      refine ⟨⟨i + 1,toks,f,by omega,HC1,hit1,hbw1,HN⟩,?_⟩
      rw [HPOS.out]
      simp only [World.iterPos,hit1]
      omega
    | false =>
     have hk2 : z43 (r : Int) < 2:=by
      have : ¬ 2 ≤ z43 (r : Int):=fun h => by rw [r1.1 h] at hrow; cases hrow
      omega
     have HROW:=Jh hrow
     have HE:=Jh (end21_inv w.heap.size s toks f i W1 w.heap.size (Nat.le_refl _) hbw1.size (HRD.out.below hbw1) hs4 hi (by rw [HD.out]; simp [hrow]) HC1.out HI.out)
     have HR2:=Jh r2
     have HR3:=Jh r3
     have HR4:=Jh r4
     have HIT1:=Jh hit1
     have HB1:=Jh hbw1
     clear r1 r2 r3 r4 hrow hit1 hbw1
     go_wp2_with (first
      | (go_at_call 195; refine (z3m _ _).mono ?_; rintro e w' ⟨rfl,rfl⟩)
      | (go_at_call 193; refine HE.out.mono ?_))
     rintro e W2 ⟨hres,hb2,hk3⟩
     have HB2:=Jh (HB1.out.trans hb2)
     have HIT2:=Jh (hk3.iter HIT1.out (by omega))
     clear hb2 hk3
     rcases hres with ⟨toks',rfl,hc2,hi2⟩ | ⟨n,er,rfl,hne,hc2,hcut⟩
     ·have HC2:=Jh hc2
      have HI2:=Jh hi2
      clear hc2 hi2
      cases hbl : z0l b with
      | true =>
       have q1 : (z43 (r : Int) == 1) = true:=by simpa using HR2.out.2 hbl
       have HN : Hid (Inv s.data.toList (i + 1) toks' (-1)):=inv_blank HI2.out HD.out hbl HROW.out
       have hwd:=(HR4.out (.inr (.inl hbl))).2.1
       have HWD:=Jh hwd
       clear hbl hwd
       go_wp2_with fail
       have hit2:=HIT2.out
       rw [HWD.out] at hit2
       refine ⟨⟨i + 1,toks',-1,by omega,HC2,hit2,HB2.out,HN⟩,?_⟩
       rw [HPOS.out]
       simp only [World.iterPos,hit2]
       omega
      | false =>
       have q1 : (z43 (r : Int) == 1) = false:=by
        rw [Bool.eq_false_iff]; intro h
        rw [HR2.out.1 (by simpa using h)] at hbl; cases hbl
       have HBL:=Jh hbl
       have HCO:=Jh (contains24_any (r : Int) (by omega) (by omega) W2)
       clear hbl
       go_wp2_with fail
       refine HCO.out.mono ?_
       rintro e W3 ⟨rfl,hb3⟩
       rw [HR3.out]
       have HC3:=Jh (HC2.out.below hb3)
       have HIT3:=Jh ((hb3.block _ (Array.getElem?_eq_some_iff.1 HIT2.out).1).trans HIT2.out)
       have HB3:=Jh (HB2.out.trans (hb3.mono HB2.out.size))
       clear hb3
       cases hsg : z0n b with
       | true =>
        obtain ⟨rfl,hwd,hb128⟩:=HR4.out (.inr (.inr hsg))
        have HWD:=Jh hwd
        have HN : Hid (Inv s.data.toList (i + 1) (z05 toks' b i) (-1)):=inv_sign HI2.out HD.out hsg
        have HSI:=Jh (sign22_any w.heap.size w.heap.size s toks' (-1) b hb128 (i : Int) (by omega) (by omega) W3 (Nat.le_refl _) HB3.out.size (by have:=inv_len HI2.out; omega) HC3.out)
        clear hsg hwd
        go_wp2_with fail
        refine HSI.out.mono ?_
        rintro e W4 ⟨rfl,hc4,hb4,hk4⟩
        have HC4:=Jh hc4
        have hit4:=hk4.iter HIT3.out (by omega)
        rw [HWD.out] at hit4
        have HB4:=Jh (HB3.out.trans hb4)
        clear hc4 hb4 hk4
        go_wp2_with fail
        refine ⟨⟨i + 1,z05 toks' b i,-1,by omega,HC4,hit4,HB4.out,HN⟩,?_⟩
        rw [HPOS.out]
        simp only [World.iterPos,hit4]
        omega
       | false =>
        have HV : Hid (cutR s = ([],(i : Int),150)):=by
         rw [Hid,cutR,if_neg (by omega),inv_wrong HI2.out HD.out HBL.out HROW.out hsg]
        clear hsg
        go_wp2_with fail
        rw [Exit.noGoto_ret]
        try go_wp2_with fail
        go_ret3
        rw [HV.out]
        exact ⟨⟨_,rfl,World.ownsRow_nil _ _ _ _⟩,HB3.out⟩
     ·have her : (er == 0) = false:=by simpa using hne
      have her2 : (er != 0) = true:=by simpa using hne
      have HV : Hid (cutR s = ([],(n : Int),er)):=by rw [Hid,cutR,if_neg (by omega),hcut]
      obtain ⟨lv,hcb,_⟩:=hc2
      have c2:=Jc hcb 2
      simp only [J9,J7,J8] at c2
      clear hcb hne hcut
      go_wp2_with fail
      go_quiet (fail)
      go_wp2_with fail
      rw [Exit.noGoto_ret]
      try go_wp2_with fail
      go_ret3
      rw [HV.out]
      exact ⟨⟨_,rfl,World.ownsRow_nil _ _ _ _⟩,z1k HB2.out _⟩
   ·have hie : i = s.size:=by omega
    subst hie
    have hdn : s.data.toList.drop s.size = []:=List.drop_of_length_le (by omega)
    have HDN:=Jh hdn
    have hnx : ∀ ty,(Instr.next (.pointer (some ⟨w.heap.size + 1,0,none⟩)) true ty).run Tryz.prog wr = _:=fun ty => Lib.run_next_end_at wr (w.heap.size + 1) s s.size ty hit hp
    have HE:=Jh (end21_inv w.heap.size s toks f s.size wr w.heap.size (Nat.le_refl _) hbw.size (HRD.out.below hbw) hs4 (Nat.le_refl _) (by rw [hdn]; simp) HC.out HI.out)
    have HB1:=Jh hbw
    clear hdn hit hbw hsz
    go_wp2_with (go_at_call 193; refine HE.out.mono ?_)
    rintro e W2 ⟨hres,hb2,hk3⟩
    have HB2:=Jh (HB1.out.trans hb2)
    clear hb2 hk3
    rcases hres with ⟨toks',rfl,hc2,hi2⟩ | ⟨n,er,rfl,hne,hc2,hcut⟩
    ·have HV : Hid (cutR s = (toks',0,0)):=by rw [Hid,cutR,if_neg (by omega),inv_done hi2 HDN.out]
     obtain ⟨lv,hcb,hown⟩:=hc2
     have c1:=Jc hcb 1
     simp only [J9,J7,J8] at c1
     have HO:=Jh hown
     clear hcb hown hi2
     go_wp2_with fail
     rw [Exit.noGoto_ret]
     try go_wp2_with fail
     go_ret3
     rw [HV.out]
     exact ⟨⟨_,rfl,HO.out⟩,HB2.out⟩
    ·have her : (er == 0) = false:=by simpa using hne
     have her2 : (er != 0) = true:=by simpa using hne
     have HV : Hid (cutR s = ([],(n : Int),er)):=by rw [Hid,cutR,if_neg (by omega),hcut]
     obtain ⟨lv,hcb,_⟩:=hc2
     have c2:=Jc hcb 2
     simp only [J9,J7,J8] at c2
     clear hcb hne hcut
     go_wp2_with fail
     go_quiet (fail)
     go_wp2_with fail
     rw [Exit.noGoto_ret]
     try go_wp2_with fail
     go_ret3
     rw [HV.out]
     exact ⟨⟨_,rfl,World.ownsRow_nil _ _ _ _⟩,z1k HB2.out _⟩
end Go.Proofs.YtockinpjfhhkoaaGreatDoor
