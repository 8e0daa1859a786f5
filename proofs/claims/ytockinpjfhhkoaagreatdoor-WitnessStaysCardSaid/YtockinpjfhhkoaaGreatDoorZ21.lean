/- lex.single and lex.may. -/
import Derived.Test.YtockinpjfhhkoaaGreatDoorZ20
import Derived.Test.YtockinpjfhhkoaaGreatDoorZ05
import Derived.Test.YtockinpjfhhkoaaGreatDoorZ09
set_option maxRecDepth 100000
set_option maxHeartbeats 16000000
open List renaming getElem_cons_zero → J5, getElem?_cons_zero → J7, getElem?_cons_succ → J8, getElem?_toArray → J9
open Go.Lib renaming cell_of_heap → Jc, frozen_of_heap → Jf, hid → Jh
namespace Go.Proofs.YtockinpjfhhkoaaGreatDoor
open Go.RowKit Go.Shelf
attribute [local go_sem ↓] Go.wp_at_zero Go.wp_at_succ
theorem kindOf_len {l : List UInt8} (h : z16 l ≠ 0) : l.length ≤ 18:=by
 cases l with
 | nil => simp
 | cons b r =>
  simp only [z16] at h
  by_cases hb : z0o b = true
  ·simp only [hb,if_true] at h
   by_cases hall : r.all z0o = true
   ·simp only [hall,if_true] at h
    cases hk : z0y (b :: r) with
    | error e => rw [hk] at h; exact absurd rfl h
    | ok k =>
     simp only [z0y] at hk
     split at hk
     ·split at hk <;> simp at hk
      simp; omega
     ·split at hk <;> simp at hk
      rename_i hn
      simp only [z4g,Bool.and_eq_true,decide_eq_true_eq] at hn
      exact hn.1.1.2
   ·rw [if_neg hall] at h; exact absurd rfl h
  ·rw [if_neg hb] at h
   by_cases hs : (z17 b && (r == [] || (twin b && r == [b]))) = true
   ·simp only [Bool.and_eq_true,Bool.or_eq_true,beq_iff_eq] at hs
    rcases hs.2 with h | h
    ·subst h; simp
    ·rw [h.2]; simp
   ·rw [if_neg hs] at h; exact absurd rfl h
theorem kind_size {s : ByteArray} (h : z16 s.data.toList ≠ 0) : s.size ≤ 18:=by rw [← z4l]; exact kindOf_len h
def z1z (s : ByteArray) : Tok × Bool:=if z16 s.data.toList ≠ 0 then (⟨z16 s.data.toList,s,0⟩,true) else (z8v,false)
theorem cut_nonzero {l : List UInt8} {p : Nat} {e : Int} : ∀ a,cut a l = .bad p e → e ≠ 0:=by
 induction l using zaq with
 | h0 => intro a h; simp at h
 | h1 b r hb hr h ih => intro a hc; rw [h] at hc; exact ih _ hc
 | h2 b r e' h =>
  intro a hc
  rcases (by
   by_cases hb : z0o b = true
   ·exact Or.inl hb
   ·exact Or.inr (by simpa using hb) : z0o b = true ∨ z0o b = false) with hb | hb
  ·rw [cut_row a b r hb] at hc
   cases hk : z0y (z1k (b :: r)) with
   | error e2 => rw [hk] at hc; cases hc; exact z4w hk
   | ok k =>
    have h3:=h a
    rw [cut_row a b r hb,hk] at h3
    simp only at h3
    cases hq : cut (a + (z1k (b :: r)).length) ((b :: r).drop (z1k (b :: r)).length) with
    | ok us => rw [hq] at h3; cases h3
    | bad p2 e2 =>
     rw [hq] at h3
     have h4:=h (a + 1)
     rw [cut_row (a + 1) b r hb,hk] at h4
     simp only at h4
     rw [show a + 1 + (z1k (b :: r)).length = a + (z1k (b :: r)).length + 1 by omega,cut_shift 1,hq] at h4
     simp only [Res.cons,Res.shift,Res.bad.injEq] at h3 h4
     have hlt:=z2w _ _ _ _ hq
     obtain ⟨k2,hk2,_⟩:=hlt
     rw [z3b b r hb] at hk2
     simp at hk2
     omega
  ·by_cases hbl : z14 b = true
   ·have h3:=h a
    rw [z5u a b r hb hbl] at h3
    obtain ⟨k2,hk2,_⟩:=z2w _ _ _ _ h3
    omega
   ·by_cases hs : z17 b = true
    ·exfalso
     rcases cut_ways b r with ⟨h5,_⟩ | ⟨e5,h5⟩ | ⟨t,rest,h5,h6,h7,h8,h9⟩
     ·exact hbl h5
     ·by_cases ht : (twin b && r.head? == some b) = true
      ·simp only [Bool.and_eq_true,beq_iff_eq] at ht
       cases r with
       | nil => simp at ht
       | cons c r =>
        simp only [List.head?_cons,Option.some.injEq] at ht
        obtain ⟨ht1,rfl⟩:=ht
        have h6:=h5 a
        rw [cut_two a c r ht1] at h6
        cases hq : cut (a + 2) r with
        | ok us => rw [hq] at h6; cases h6
        | bad p2 e2 =>
         rw [hq] at h6
         obtain ⟨k2,hk2,_⟩:=z2w _ _ _ _ hq
         simp only [Res.cons,Res.bad.injEq] at h6
         omega
      ·have h6:=h5 a
       rw [z93 a b r hb (by simpa using hbl) hs (by simpa using ht)] at h6
       cases hq : cut (a + 1) r with
       | ok us => rw [hq] at h6; cases h6
       | bad p2 e2 =>
        rw [hq] at h6
        obtain ⟨k2,hk2,_⟩:=z2w _ _ _ _ hq
        simp only [Res.cons,Res.bad.injEq] at h6
        omega
     ·have h10:=h a
      rw [h9] at h10
      cases hq : cut (a + t.length) rest with
      | ok us => rw [hq] at h10; cases h10
      | bad p2 e2 =>
       rw [hq] at h10
       obtain ⟨k2,hk2,_⟩:=z2w _ _ _ _ hq
       simp only [Res.cons,Res.bad.injEq] at h10
       have:=List.length_pos_iff.2 h5
       omega
    ·rw [zao a b r hb (by simpa using hbl) (by simpa using hs)] at hc
     cases hc; decide
 | h3 t rest hne hk hap h ih =>
  intro a hc
  rw [h] at hc
  cases hq : cut (a + t.length) rest with
  | ok us => rw [hq] at hc; cases hc
  | bad p2 e2 =>
   rw [hq] at hc
   simp only [Res.cons,Res.bad.injEq] at hc
   obtain ⟨rfl,rfl⟩:=hc
   exact ih _ hq
theorem cutR_ok {s : ByteArray} (h : (cutR s).2.2 = 0) : s.size ≤ 4096 ∧ cut 0 s.data.toList = .ok (cutR s).1 ∧ (cutR s).2.1 = 0:=by
 unfold cutR at h ⊢
 split at h
 ·simp at h
 ·rename_i h4
  rw [if_neg h4]
  cases hc : cut 0 s.data.toList with
  | ok l => exact ⟨by omega,rfl,rfl⟩
  | bad a e => rw [hc] at h; exact absurd h (cut_nonzero 0 hc)
open Go.RowKit Go.Shelf
attribute [local go_sem ↓] Go.wp_at_zero Go.wp_at_succ
theorem singleR_no {s : ByteArray} (h : ∀ t,(cutR s).2.2 = 0 → (cutR s).1 = [t] → t.text ≠ s) : z1z s = (z8v,false):=by
 unfold z1z
 by_cases hk : z16 s.data.toList = 0
 ·simp [hk]
 ·exfalso
  have h1:=(cut_single s.data.toList [⟨z16 s.data.toList,bsOf s.data.toList,0⟩]).2 ⟨hk,rfl⟩
  have hz:=kind_size hk
  have h2 : cutR s = ([⟨z16 s.data.toList,bsOf s.data.toList,0⟩],0,0):=by rw [cutR,if_neg (by omega),h1.1]
  exact h _ (by rw [h2]) (by rw [h2]) (bsOf_of s)
theorem singleR_yes {s : ByteArray} (t : Tok) (h0 : (cutR s).2.2 = 0) (h1 : (cutR s).1 = [t]) (h2 : t.text = s) : z1z s = (t,true):=by
 obtain ⟨_,hc,_⟩:=cutR_ok h0
 rw [h1] at hc
 have:=(cut_single s.data.toList [t]).1 ⟨hc,rfl,by rw [List.head?_cons,Option.map_some,h2,bsOf_of]⟩
 unfold z1z
 rw [if_pos this.1]
 have ht:=(List.cons.inj this.2).1
 rw [ht,bsOf_of]
theorem single38_any (s : ByteArray) (w : World) (hr : Rdy w) : Calls Tryz.prog 204 #[.string s] w fun e w' =>
 e = .returned (.tuple #[(z1z s).1.val,.bool (z1z s).2]) ∧ Below w.heap.size w w':=by
 have HCUT:=Jh (cut9_any s (w.alloc (.cells #[.int .u8 0,.string .empty,.int .i64 0] 194)) (hr.below ((Below.refl _ w).alloc (Nat.le_refl _) _)))
 have hz : (w.alloc (.cells #[.int .u8 0,.string .empty,.int .i64 0] 194)).heap.size = w.heap.size + 1:=by simp
 have HN:=Jh (@singleR_no s)
 have HY:=Jh (@singleR_yes s)
 have HRR : Hid (∀ t b,z1z s = (t,b) → (Ending.returned (.tuple #[t.val,.bool b]) : Ending) = .returned (.tuple #[(z1z s).1.val,.bool (z1z s).2])):=by rintro t b h; rw [h]
 generalize cutR s = C at HCUT HN HY
 obtain ⟨l,at_,er⟩:=C
 dsimp only at HCUT HN HY
 go_enter Tryz.func204,Tryz.ntmps204
 go_wp2_with fail
 refine HCUT.out.mono ?_
 rintro e w1 ⟨⟨v',rfl,hown⟩,hb1⟩
 have hbw : Below w.heap.size w w1:=((Below.refl _ w).alloc (Nat.le_refl _) _).trans (hb1.mono (by rw [hz]; omega))
 have hblk : w1.heap[w.heap.size]? = some (.cells #[.int .u8 0,.string .empty,.int .i64 0] 194 (0,0)):=by
  rw [hb1.block w.heap.size (by rw [hz]; omega)]
  exact Array.getElem?_push_size
 have HBW:=Jh hbw
 have HBL:=Jh hblk
 clear hbw hblk hb1 hz
 by_cases her : er = 0
 ·subst her
  by_cases hln : l.length = 1
  ·obtain ⟨t,rfl⟩ : ∃ t,l = [t]:=List.length_eq_one_iff.1 hln
   obtain ⟨g,cp,rfl,_,hgl,hc,_,_⟩:=hown.at (by simp)
   have h3:=hc 0 (by simp)
   simp only [J5,Nat.zero_mul,Nat.zero_add,Nat.add_zero] at h3
   obtain ⟨g0,g1,g2⟩:=h3
   have hln1 : ((([t] : List Tok).length : Int) != 1) = false:=by simp
   simp only [List.length_cons,List.length_nil,Nat.zero_add] at *
   obtain ⟨tk,tt,tp⟩:=t
   dsimp only at g0 g1 g2
   clear hc hown
   by_cases hx : tt = s
   ·have HF : Hid (z1z s = (⟨tk,tt,tp⟩,true)):=HY.out _ (by trivial) rfl hx
    have HX:=Jh hx
    have q : (tt.toList == s.toList) = true:=by rw [hx]; simp
    clear hx
    have c0:=Jc HBL.out 0
    have c1:=Jc HBL.out 1
    have c2:=Jc HBL.out 2
    have f0:=Jf HBL.out 0
    have f1:=Jf HBL.out 1
    have f2:=Jf HBL.out 2
    simp only [J9,J7,J8] at c0 c1 c2
    go_wp2_with fail
    obtain ⟨k0,k1,k2⟩:=z28 HBL.out (.int .u8 tk) (.string tt) (.int .i64 tp)
    exact bodyPost_ret (z0n rfl rfl rfl (Tryz.isAgg194 _) (Tryz.sizeOf194 _) k0 k1 k2) rfl ⟨by rw [← HRR.out _ _ HF.out]; rfl,z1v HBW.out (Nat.le_refl _) _ _ _⟩
   ·have HF : Hid (z1z s = (z8v,false)):=HN.out (fun t _ h => by rw [← (List.cons.inj h).1]; exact hx)
    have q : (tt.toList == s.toList) = false:=by simpa using fun h => hx (z8r h)
    clear hx
    have c0:=Jc HBL.out 0
    have c1:=Jc HBL.out 1
    have c2:=Jc HBL.out 2
    have f0:=Jf HBL.out 0
    have f1:=Jf HBL.out 1
    have f2:=Jf HBL.out 2
    simp only [J9,J7,J8] at c0 c1 c2
    go_wp2_with fail
    obtain ⟨k0,k1,k2⟩:=z28 HBL.out (.int .u8 0) (.string .empty) (.int .i64 0)
    exact bodyPost_ret (z0n rfl rfl rfl (Tryz.isAgg194 _) (Tryz.sizeOf194 _) k0 k1 k2) rfl ⟨by rw [← HRR.out _ _ HF.out]; rfl,z1v HBW.out (Nat.le_refl _) _ _ _⟩
  ·have HF : Hid (z1z s = (z8v,false)):=HN.out (fun t _ h => by rw [h] at hln; exact absurd rfl hln)
   obtain ⟨a9,c9,rfl⟩:=hown.shape
   have q : ((l.length : Int) == 1) = false:=by simp; omega
   have q2 : ((l.length : Int) != 1) = true:=by simp; omega
   clear hln hown
   have c0:=Jc HBL.out 0
   have c1:=Jc HBL.out 1
   have c2:=Jc HBL.out 2
   have f0:=Jf HBL.out 0
   have f1:=Jf HBL.out 1
   have f2:=Jf HBL.out 2
   simp only [J9,J7,J8] at c0 c1 c2
   go_wp2_with fail
   obtain ⟨k0,k1,k2⟩:=z28 HBL.out (.int .u8 0) (.string .empty) (.int .i64 0)
   exact bodyPost_ret (z0n rfl rfl rfl (Tryz.isAgg194 _) (Tryz.sizeOf194 _) k0 k1 k2) rfl ⟨by rw [← HRR.out _ _ HF.out]; rfl,z1v HBW.out (Nat.le_refl _) _ _ _⟩
 ·have HF : Hid (z1z s = (z8v,false)):=HN.out (fun t h _ => absurd h her)
  have q : (er == 0) = false:=by simpa using her
  have q2 : (er != 0) = true:=by simpa using her
  clear her hown
  have c0:=Jc HBL.out 0
  have c1:=Jc HBL.out 1
  have c2:=Jc HBL.out 2
  have f0:=Jf HBL.out 0
  have f1:=Jf HBL.out 1
  have f2:=Jf HBL.out 2
  simp only [J9,J7,J8] at c0 c1 c2
  go_wp2_with fail
  obtain ⟨k0,k1,k2⟩:=z28 HBL.out (.int .u8 0) (.string .empty) (.int .i64 0)
  exact bodyPost_ret (z0n rfl rfl rfl (Tryz.isAgg194 _) (Tryz.sizeOf194 _) k0 k1 k2) rfl ⟨by rw [← HRR.out _ _ HF.out]; rfl,z1v HBW.out (Nat.le_refl _) _ _ _⟩
open Go.RowKit Go.Shelf
attribute [local go_sem ↓] Go.wp_at_zero Go.wp_at_succ
def wordsL : List UInt8:=[32,116,114,117,101,32,102,97,108,115,101,32,111,111,32]
theorem words_fin : ∀ i : Fin 16,(wordsL.drop i.val).head? = some 32 → ((wordsL.drop i.val).drop 1).takeWhile (· != 32) = [] ∨ ((wordsL.drop i.val).drop 1).takeWhile (· != 32) = [116,114,117,101] ∨ ((wordsL.drop i.val).drop 1).takeWhile (· != 32) = [102,97,108,115,101] ∨ ((wordsL.drop i.val).drop 1).takeWhile (· != 32) = [111,111]:=by decide
theorem takeWhile_sep (l x : List UInt8) (h : ∀ b ∈ l,b ≠ 32) : (l ++ 32 :: x).takeWhile (· != 32) = l:=by
 induction l with
 | nil => simp
 | cons b r ih =>
  have hb : (b != 32) = true:=by simpa using h b (by simp)
  rw [List.cons_append,List.takeWhile_cons,hb,if_pos rfl,ih (fun c hc => h c (by simp [hc]))]
theorem contains_word (l : List UInt8) (hne : l ≠ []) (h : ∀ b ∈ l,b ≠ 32) : Lib.contains wordsL (32 :: l ++ [32]) = (l == [116,114,117,101] || l == [102,97,108,115,101] || l == [111,111]):=by
 rw [Bool.eq_iff_iff]
 constructor
 ·intro hc
  simp only [Lib.contains,decide_eq_true_eq] at hc
  rcases Lib.index_spec wordsL (32 :: l ++ [32]) with ⟨h1,_⟩ | ⟨i,_,h2,h3,_⟩
  ·omega
  ·simp only [Lib.occAt,List.isPrefixOf_iff_prefix] at h3
   obtain ⟨x,hx⟩:=h3
   have hf:=words_fin ⟨i,by have : wordsL.length = 15:=rfl; omega⟩
   simp only at hf
   rw [← hx] at hf
   have h4 : List.takeWhile (fun b : UInt8 => b != 32) (List.drop 1 (32 :: l ++ [32] ++ x)) = l:=by
    have : List.drop 1 (32 :: l ++ [32] ++ x) = l ++ 32 :: x:=by simp
    rw [this,takeWhile_sep l x h]
   rw [h4] at hf
   rcases hf (by simp) with e | e | e | e
   ·exact absurd e hne
   ·simp [e]
   ·simp [e]
   ·simp [e]
 ·intro hc
  simp only [Bool.or_eq_true,beq_iff_eq] at hc
  rcases hc with (e | e) | e <;> subst e <;> decide
theorem row_no_blank {l : List UInt8} (h : l.all z0o = true) : ∀ b ∈ l,b ≠ 32:=by
 rw [List.all_eq_true] at h
 rintro b hb rfl
 have:=h 32 hb
 revert this; decide
theorem kindOf_one {l : List UInt8} : (z16 l == 1) = z79 l:=by
 rw [← kindB_eq]
 unfold kindB
 cases z79 l with
 | true => rfl
 | false =>
  cases numB l with
  | true => rfl
  | false => cases signB l <;> rfl
theorem wordB_row {l : List UInt8} (h : z79 l = true) : l ≠ [] ∧ l.all z0o = true ∧ l.length ≤ 8:=by
 simp only [z79,Bool.and_eq_true,decide_eq_true_eq,beq_iff_eq] at h
 cases l with
 | nil => simp at h
 | cons b r =>
  refine ⟨by simp,?_,h.1.1.2⟩
  have h1 : z7q b = true:=by simpa using h.1.2
  have h2 : r.all z0o = true:=by simpa using h.2
  simp only [List.all_cons,h2,z0o,h1,Bool.true_or,Bool.and_self]
theorem nameB_single (s : ByteArray) : zac s.data.toList = ((z1z s).2 && ((z1z s).1.kind == 1) && !(Lib.contains wordsL (32 :: s.data.toList ++ [32]))):=by
 unfold z1z zac
 by_cases hw : z79 s.data.toList = true
 ·have hk:=kindOf_one (l:=s.data.toList)
  rw [hw] at hk
  have hk1 : z16 s.data.toList = 1:=by simpa using hk
  obtain ⟨h1,h2,_⟩:=wordB_row hw
  rw [if_pos (by rw [hk1]; decide),contains_word _ h1 (row_no_blank h2),hw]
  simp only [hk1,bne,Bool.true_and,beq_self_eq_true,Bool.not_or]
 ·have hw' : z79 s.data.toList = false:=by simpa using hw
  have hk:=kindOf_one (l:=s.data.toList)
  rw [hw'] at hk
  rw [hw']
  split
  ·simp only [hk]; simp
  ·simp
theorem name19_any (s : ByteArray) (hs : s.size ≤ 1048576) (w : World) (hr : Rdy w) : Calls Tryz.prog 136 #[.string s] w fun e w' =>
 e = .returned (.bool (zac s.data.toList)) ∧ Below w.heap.size w w':=by
 have HSI:=Jh (single38_any s w hr)
 have HE:=Jh (nameB_single s)
 have hadd1 : ∀ W,(Op.stringOp .add ⟨#[32]⟩ s).run Tryz.prog W = .ok (.string (⟨#[32]⟩ ++ s)) W:=fun W => run_string_add_sum W _ s (by show 1 + s.size ≤ _; omega)
 have hsz : ((⟨#[32]⟩ : ByteArray) ++ s).size = 1 + s.size:=by rw [ByteArray.size_append]; rfl
 have hadd2 : ∀ W,(Op.stringOp .add (⟨#[32]⟩ ++ s) ⟨#[32]⟩).run Tryz.prog W = .ok (.string (⟨#[32]⟩ ++ s ++ ⟨#[32]⟩)) W:=fun W => run_string_add_sum W _ _ (by rw [hsz]; show 1 + s.size + 1 ≤ _; omega)
 have hL : ((⟨#[32]⟩ : ByteArray) ++ s ++ ⟨#[32]⟩).data.toList = 32 :: s.data.toList ++ [32]:=by simp [ByteArray.data_append]
 have HC : Hid (∀ W,Rdy W → Calls Tryz.prog 205 #[.string ⟨#[32,116,114,117,101,32,102,97,108,115,101,32,111,111,32]⟩,.string (⟨#[32]⟩ ++ s ++ ⟨#[32]⟩)] W fun e w' => e = .returned (.bool (Lib.contains wordsL (32 :: s.data.toList ++ [32]))) ∧ w' = W):=by
  intro W hW
  obtain ⟨m,hm⟩:=hW.1
  have:=Tryz.strings_Contains ⟨#[32,116,114,117,101,32,102,97,108,115,101,32,111,111,32]⟩ (⟨#[32]⟩ ++ s ++ ⟨#[32]⟩) m W (by decide) hm
  rw [hL] at this
  exact this
 have HR:=Jh hr
 clear hr hsz hL
 generalize (⟨#[32]⟩ : ByteArray) ++ s ++ ⟨#[32]⟩ = Y at hadd2 HC
 generalize (⟨#[32]⟩ : ByteArray) ++ s = X at hadd1 hadd2
 generalize z1z s = S at HSI HE
 obtain ⟨⟨sk,st,sp⟩,ok⟩:=S
 dsimp only [Tok.val] at HSI HE
 generalize Lib.contains wordsL (32 :: s.data.toList ++ [32]) = C at HC HE
 go_enter Tryz.func136,Tryz.ntmps136
 go_wp2_with fail
 refine HSI.out.mono ?_
 rintro e w1 ⟨rfl,hb1⟩
 have HRW:=Jh (HR.out.below hb1)
 have HB:=Jh (hb1.alloc hb1.size (.cells #[.int .u8 sk,.string st,.int .i64 sp] 194))
 clear hb1
 cases ok with
 | false =>
  go_wp2_with fail
  all_goals go_ret
  all_goals exact ⟨z02 (by rw [HE.out]; rfl),HB.out⟩
 | true =>
  cases hk : sk == 1 with
  | false =>
   go_wp2_with fail
   all_goals go_ret
   all_goals exact ⟨z02 (by rw [HE.out,hk]; rfl),HB.out⟩
  | true =>
   have HK:=Jh hk
   have HCA:=Jh (HC.out (w1.alloc (.cells #[.int .u8 sk,.string st,.int .i64 sp] 194)) (HRW.out.below ((Below.refl _ w1).alloc (Nat.le_refl _) _)))
   go_wp2_with (go_at_call 205; refine HCA.out.mono ?_; rintro e w2 ⟨rfl,rfl⟩)
   all_goals go_ret
   all_goals exact ⟨z02 (by rw [HE.out,HK.out]; simp),HB.out⟩
open Go.RowKit
theorem z4e {α : Type} (p : α → Bool) (l : List α) : l.all p = (l.map p).all id:=by rw [List.all_map]; rfl
theorem z4o {α : Type} (f : α → Int) (a : Int) (l : List α) : z1l f a l = (l.map f).foldl (fun acc y => wrap64 (acc + y)) a:=by unfold z1l; rw [List.foldl_map]
theorem zb1 (so : Int → ByteArray → Nat → Bool) : ∀ (n n' : Nat) (t : FT n) (u : FT n'),toF n t = toF n' u → allF so n t = allF so n' u
 | 0,_,t,_,_ => nomatch t
 | _ + 1,0,_,u,_ => nomatch u
 | n + 1,n' + 1,t,u,h => by
  obtain ⟨k,s,of⟩:=t
  obtain ⟨k',s',of'⟩:=u
  have h' : F.mk k s (of.map (toF n)) = F.mk k' s' (of'.map (toF n')):=h
  injection h' with h1 h2 h3
  subst h1 h2
  have H : of.map (allF so n) = of'.map (allF so n'):=z5p h3 fun x _ y _ e => zb1 so n n' x y e
  have L : of.length = of'.length:=by simpa using congrArg List.length h3
  show (so k s of.length && of.all (allF so n)) = (so k s of'.length && of'.all (allF so n'))
  rw [z4e,z4e (allF so n'),H,L]
theorem cntF_same : ∀ (n n' : Nat) (t : FT n) (u : FT n'),toF n t = toF n' u → cntF n t = cntF n' u
 | 0,_,t,_,_ => nomatch t
 | _ + 1,0,_,u,_ => nomatch u
 | n + 1,n' + 1,t,u,h => by
  obtain ⟨k,s,of⟩:=t
  obtain ⟨k',s',of'⟩:=u
  have h' : F.mk k s (of.map (toF n)) = F.mk k' s' (of'.map (toF n')):=h
  injection h' with h1 h2 h3
  have H : of.map (cntF n) = of'.map (cntF n'):=z5p h3 fun x _ y _ e => cntF_same n n' x y e
  show z1l (cntF n) 1 of = z1l (cntF n') 1 of'
  rw [z4o,z4o,H]
theorem fmsC_same {n n' : Nat} {l : List (FT n)} {l' : List (FT n')} (h : l.map (toF n) = l'.map (toF n')) : fmsC n l = fmsC n' l':=by
 unfold fmsC
 rw [z4o,z4o,z5p h fun x _ y _ e => cntF_same n n' x y e]
theorem z87 {m m' : Nat} {so : Int → List (FT m) → Nat → Spn → Bool} {so' : Int → List (FT m') → Nat → Spn → Bool} (hso : ∀ k is is' l i,is.map (toF m) = is'.map (toF m') → so k is l i = so' k is' l i) :
 ∀ (n n' : Nat) (t : XT m n) (u : XT m' n'),toX n t = toX n' u → allX so n t = allX so' n' u
 | 0,_,t,_,_ => nomatch t
 | _ + 1,0,_,u,_ => nomatch u
 | n + 1,n' + 1,t,u,h => by
  obtain ⟨k,is,of,i⟩:=t
  obtain ⟨k',is',of',i'⟩:=u
  have h' : X.mk k (is.map (toF m)) (of.map (toX n)) i = X.mk k' (is'.map (toF m')) (of'.map (toX n')) i':=h
  injection h' with h1 h2 h3 h4
  subst h1 h4
  have H : of.map (allX so n) = of'.map (allX so' n'):=z5p h3 fun x _ y _ e => z87 hso n n' x y e
  have L : of.length = of'.length:=by simpa using congrArg List.length h3
  show (so k is of.length i && of.all (allX so n)) = (so' k is' of'.length i && of'.all (allX so' n'))
  rw [z4e,z4e (allX so' n'),H,L,hso k is is' _ i h2]
theorem cntX_same {m m' : Nat} {one : Int → List (FT m) → Int} {one' : Int → List (FT m') → Int} (ho : ∀ k is is',is.map (toF m) = is'.map (toF m') → one k is = one' k is') :
 ∀ (n n' : Nat) (t : XT m n) (u : XT m' n'),toX n t = toX n' u → cntX one n t = cntX one' n' u
 | 0,_,t,_,_ => nomatch t
 | _ + 1,0,_,u,_ => nomatch u
 | n + 1,n' + 1,t,u,h => by
  obtain ⟨k,is,of,i⟩:=t
  obtain ⟨k',is',of',i'⟩:=u
  have h' : X.mk k (is.map (toF m)) (of.map (toX n)) i = X.mk k' (is'.map (toF m')) (of'.map (toX n')) i':=h
  injection h' with h1 h2 h3 h4
  subst h1 h4
  have H : of.map (cntX one n) = of'.map (cntX one' n'):=z5p h3 fun x _ y _ e => cntX_same ho n n' x y e
  show z1l (cntX one n) (one k is) of = z1l (cntX one' n') (one' k is') of'
  rw [z4o,z4o,H,ho k is is' h2]
theorem rightX_same {m m' : Nat} (k : Int) (is : List (FT m)) (is' : List (FT m')) (l : Nat) (i : Spn) (h : is.map (toF m) = is'.map (toF m')) : z0c k is l i = z0c k is' l i:=by
 have L : is.length = is'.length:=by simpa using congrArg List.length h
 have H : is.map (allF z13 m) = is'.map (allF z13 m'):=z5p h fun x _ y _ e => zb1 z13 m m' x y e
 unfold z0c
 rw [z4e (allF z13 m),z4e (allF z13 m'),H,L]
theorem z70 {m n m' n' : Nat} (names : List ByteArray) {t : XT m n} {u : XT m' n'} (h : toX n t = toX n' u) : z0r names n t = z0r names n' u:=by
 unfold z0r
 have h1 : allX z0c n t = allX z0c n' u:=z87 (fun k is is' l i e => rightX_same k is is' l i e) n n' t u h
 have h2 : z10 n t = z10 n' u:=cntX_same (fun k is is' e => by unfold oneX; rw [fmsC_same e]) n n' t u h
 have h3 : allX (z2v names) n t = allX (z2v names) n' u:=z87 (fun k is is' l i e => by
  unfold z2v
  rw [z4e (allF (z3o names) m),z4e (allF (z3o names) m'),z5p e fun x _ y _ e => zb1 _ m m' x y e]) n n' t u h
 have h4 : allX z2s n t = allX z2s n' u:=z87 (so:=z2s) (so':=z2s) (fun k is is' l i _ => rfl) n n' t u h
 rw [h1,h2,h3,h4]
open Go.RowKit
theorem dig_of {c : UInt8} (h : z5g c = true) : 48 ≤ c ∧ c ≤ 57:=by
 unfold z5g at h
 simp only [Bool.and_eq_true,decide_eq_true_eq] at h
 exact ⟨UInt8.le_iff_toNat_le.2 h.1,UInt8.le_iff_toNat_le.2 h.2⟩
theorem kind_good {l : List UInt8} (h : z16 l ≠ 0) : l.length ≤ 18 ∧ (z16 l = 2 → l ≠ [] ∧ l.length ≤ 18 ∧ ∀ c ∈ l,48 ≤ c ∧ c ≤ 57):=by
 cases l with
 | nil => exact absurd rfl h
 | cons b r =>
  have e : z16 (b :: r) = if z0o b then (if r.all z0o then (match z0y (b :: r) with | .ok k => k | .error _ => 0) else 0) else if z17 b && (r == [] || (twin b && r == [b])) then 3 else 0:=rfl
  rw [e] at h ⊢
  by_cases h1 : z0o b = true
  ·rw [if_pos h1] at h ⊢
   by_cases h2 : r.all z0o = true
   ·rw [if_pos h2] at h ⊢
    have ek : z0y (b :: r) = if z7q b then (if r.length + 1 ≤ 8 then .ok 1 else .error 152) else if z4g (b :: r) then .ok 2 else .error 151:=rfl
    rw [ek] at h ⊢
    by_cases h3 : z7q b = true
    ·rw [if_pos h3] at h ⊢
     by_cases h4 : r.length + 1 ≤ 8
     ·rw [if_pos h4] at h ⊢
      exact ⟨by simp; omega,fun h => absurd h (by decide)⟩
     ·rw [if_neg h4] at h
      exact absurd rfl h
    ·rw [if_neg h3] at h ⊢
     by_cases h4 : z4g (b :: r) = true
     ·rw [if_pos h4] at h ⊢
      unfold z4g at h4
      simp only [Bool.and_eq_true,decide_eq_true_eq] at h4
      have hl:=h4.1.1.2
      refine ⟨hl,fun _ => ⟨by simp,hl,fun c hc => dig_of (List.all_eq_true.1 h4.1.1.1 c hc)⟩⟩
     ·rw [if_neg h4] at h
      exact absurd rfl h
   ·rw [if_neg h2] at h
    exact absurd rfl h
  ·rw [if_neg h1] at h ⊢
   by_cases h2 : (z17 b && (r == [] || (twin b && r == [b]))) = true
   ·rw [if_pos h2] at h ⊢
    refine ⟨?_,fun h => absurd h (by decide)⟩
    simp only [Bool.and_eq_true,Bool.or_eq_true,beq_iff_eq] at h2
    rcases h2.2 with h | h
    ·rw [h]; simp
    ·rw [h.2]; simp
   ·rw [if_neg h2] at h
    exact absurd rfl h
theorem tok_good {s : List UInt8} {ts : List Tok} (h : cut 0 s = .ok ts) : ∀ t ∈ ts,TokG t:=by
 intro t ht
 obtain ⟨k1,k2,_⟩:=cut_kinds s 0 ts h t ht
 have hg:=kind_good (l:=t.text.data.toList) (by rw [k1]; exact k2)
 refine ⟨?_,fun hk => hg.2 (by rw [k1]; exact hk)⟩
 have:=z4l t.text
 omega
theorem end_good (stop : Int) : TokG ⟨0,⟨#[]⟩,stop⟩:=⟨show (⟨#[]⟩ : ByteArray).size ≤ 1048576 by decide,fun h => absurd h (show ¬ (0 : Int) = 2 by decide)⟩
def noX : Value:=.agg #[.int .u8 0,.slice none 0 0,.slice none 0 0,.int .i64 0,.bool false,.int .i64 0,.bool false,.bool false]
inductive ParseIs (names : List ByteArray) (s : ByteArray) (w : World) : Value → Int → Int → Prop
 | names (h : z0z names ≠ 0) : ParseIs names s w noX 0 (z0z names)
 | cut (h : z0z names = 0) (hc : (cutR s).2.2 ≠ 0) : ParseIs names s w noX (cutR s).2.1 (cutR s).2.2
 | wrong (h : z0z names = 0) (hc : (cutR s).2.2 = 0) (c p : Int) (he : allR (cutR s).1 s.size = .error (c,p)) : ParseIs names s w noX p c
 | check (h : z0z names = 0) (hc : (cutR s).2.2 = 0) (m n : Nat) (t : XT m n) (he : allR (cutR s).1 s.size = .ok (toX n t)) (hk : z0r names n t ≠ 0) : ParseIs names s w noX 0 (z0r names n t)
 | ok (h : z0z names = 0) (hc : (cutR s).2.2 = 0) (m n : Nat) (t : XT m n) (he : allR (cutR s).1 s.size = .ok (toX n t)) (hk : z0r names n t = 0) (v : Value) (hv : XRep w w.heap.size m n t v) : ParseIs names s w v 0 0
theorem cut_len_le (l : List UInt8) : ∀ a ts,cut a l = .ok ts → ts.length ≤ l.length:=by
 intro a ts h
 rcases Nat.lt_or_ge l.length ts.length with hlt | hge
 ·have key : ∀ n,(hn : n < ts.length) → ∃ k,(ts[n]).place = (a + k : Nat) ∧ n ≤ k ∧ k < l.length:=by
   intro n
   induction n with
   | zero =>
    intro hn
    obtain ⟨k,h1,h2,_⟩:=zap l a ts h 0 hn
    exact ⟨k,h1,by omega,h2⟩
   | succ n ih =>
    intro hn
    obtain ⟨k1,g1,g2,g3⟩:=ih (by omega)
    obtain ⟨k,h1,h2,h3,_⟩:=zap l a ts h (n + 1) hn
    obtain ⟨k2,e1,e2,_⟩:=zap (l.take k) a _ h3 n (by simp; omega)
    rw [List.getElem_take,g1] at e1
    rw [List.length_take] at e2
    exact ⟨k,h1,by omega,h2⟩
  obtain ⟨k,_,h2,h3⟩:=key l.length hlt
  omega
 ·exact hge
theorem cutR_len {s : ByteArray} (h : (cutR s).2.2 = 0) : (cutR s).1.length ≤ 4096:=by
 obtain ⟨h1,h2,_⟩:=cutR_ok h
 have:=cut_len_le _ 0 _ h2
 have:=z4l s
 omega
open Go.RowKit
def bP : ByteArray:=⟨#[112]⟩
def bQ : ByteArray:=⟨#[113]⟩
def pqL : List ByteArray:=[bP,bQ]
def fP : FT 2:=(3,bP,[])
def fQ : FT 2:=(3,bQ,[])
theorem pq_right : z0z pqL = 0:=by decide +kernel
theorem pq_small : ∀ s ∈ pqL,s.size ≤ 1048576:=by decide +kernel
/-! ### What is answered,told -/
theorem ParseIs.at_ok {names : List ByteArray} {s : ByteArray} {w : World} {v : Value} {at_ cd : Int} (h : ParseIs names s w v at_ cd) (hn : z0z names = 0) (hc : (cutR s).2.2 = 0) {m n : Nat} {t : XT m n} (ha : allR (cutR s).1 s.size = .ok (toX n t)) (hk : z0r names n t = 0) :
 at_ = 0 ∧ cd = 0 ∧ ∃ (m' n' : Nat) (t' : XT m' n'),toX n' t' = toX n t ∧ XRep w w.heap.size m' n' t' v:=by
 cases h with
 | names h => exact absurd hn h
 | cut _ h => exact absurd hc h
 | wrong _ _ c p he => rw [ha] at he; cases he
 | check _ _ m' n' t' he hk' =>
  rw [ha] at he
  injection he with he
  exact absurd ((z70 names he).symm.trans hk) hk'
 | ok _ _ m' n' t' he hk' v hv =>
  rw [ha] at he
  injection he with he
  exact ⟨rfl,rfl,m',n',t',he.symm,hv⟩
theorem nrep_pq (w : World) (b : Nat) (fr : Nat × Nat) (h : w.heap[b]? = some (.cells #[.string bP,.string bQ] 9 fr)) (c : Nat) : NRep w w.heap.size (.slice (some ⟨b,0,none⟩) 2 c) pqL:=by
 refine ⟨_,c,rfl,by decide,.inr ⟨b,0,rfl,(Array.getElem?_eq_some_iff.1 h).1,fun i hi => ?_⟩⟩
 match i,hi with
 | 0,_ => exact Jc h 0
 | 1,_ => exact Jc h 1
end Go.Proofs.YtockinpjfhhkoaaGreatDoor
