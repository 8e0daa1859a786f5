/- lex.single and lex.may. -/
import Derived.Test.YtockinpjfhhkoaaGreatDoorZ18
set_option maxRecDepth 100000
set_option maxHeartbeats 16000000
open List renaming getElem_cons_zero → J5, getElem?_cons_zero → J7, getElem?_cons_succ → J8, getElem?_toArray → J9
open Go.Lib renaming cell_of_heap → Jc, frozen_of_heap → Jf, hid → Jh
namespace Go.Proofs.YtockinpjfhhkoaaGreatDoor
open Go.RowKit Go.Shelf
attribute [local go_sem ↓] Go.wp_at_zero Go.wp_at_succ
theorem kindOf_len {l : List UInt8} (h : z0o l ≠ 0) : l.length ≤ 18:=by
 cases l with
 | nil => simp
 | cons b r =>
  simp only [z0o] at h
  by_cases hb : z0a b = true
  ·simp only [hb,if_true] at h
   by_cases hall : r.all z0a = true
   ·simp only [hall,if_true] at h
    cases hk : z0k (b :: r) with
    | error e => rw [hk] at h; exact absurd rfl h
    | ok k =>
     simp only [z0k] at hk
     split at hk
     ·split at hk <;> simp at hk
      simp; omega
     ·split at hk <;> simp at hk
      rename_i hn
      simp only [z32,Bool.and_eq_true,decide_eq_true_eq] at hn
      exact hn.1.1.2
   ·rw [if_neg hall] at h; exact absurd rfl h
  ·rw [if_neg hb] at h
   by_cases hs : (z0n b && (r == [] || (twin b && r == [b]))) = true
   ·simp only [Bool.and_eq_true,Bool.or_eq_true,beq_iff_eq] at hs
    rcases hs.2 with h | h
    ·subst h; simp
    ·rw [h.2]; simp
   ·rw [if_neg hs] at h; exact absurd rfl h
theorem kind_size {s : ByteArray} (h : z0o s.data.toList ≠ 0) : s.size ≤ 18:=by rw [← z3b]; exact kindOf_len h
def z15 (s : ByteArray) : Tok × Bool:=if z0o s.data.toList ≠ 0 then (⟨z0o s.data.toList,s,0⟩,true) else (z58,false)
theorem cut_nonzero {l : List UInt8} {p : Nat} {e : Int} : ∀ a,cut a l = .bad p e → e ≠ 0:=by
 induction l using cut_ind with
 | h0 => intro a h; simp at h
 | h1 b r hb hr h ih => intro a hc; rw [h] at hc; exact ih _ hc
 | h2 b r e' h =>
  intro a hc
  rcases (by
   by_cases hb : z0a b = true
   ·exact Or.inl hb
   ·exact Or.inr (by simpa using hb) : z0a b = true ∨ z0a b = false) with hb | hb
  ·rw [cut_row a b r hb] at hc
   cases hk : z0k (z0y (b :: r)) with
   | error e2 => rw [hk] at hc; cases hc; exact z2y hk
   | ok k =>
    have h3:=h a
    rw [cut_row a b r hb,hk] at h3
    simp only at h3
    cases hq : cut (a + (z0y (b :: r)).length) ((b :: r).drop (z0y (b :: r)).length) with
    | ok us => rw [hq] at h3; cases h3
    | bad p2 e2 =>
     rw [hq] at h3
     have h4:=h (a + 1)
     rw [cut_row (a + 1) b r hb,hk] at h4
     simp only at h4
     rw [show a + 1 + (z0y (b :: r)).length = a + (z0y (b :: r)).length + 1 by omega,cut_shift 1,hq] at h4
     simp only [Res.cons,Res.shift,Res.bad.injEq] at h3 h4
     have hlt:=z1q _ _ _ _ hq
     obtain ⟨k2,hk2,_⟩:=hlt
     rw [z1z b r hb] at hk2
     simp at hk2
     omega
  ·by_cases hbl : z0l b = true
   ·have h3:=h a
    rw [z4p a b r hb hbl] at h3
    obtain ⟨k2,hk2,_⟩:=z1q _ _ _ _ h3
    omega
   ·by_cases hs : z0n b = true
    ·exfalso
     rcases cut_ways b r with ⟨h5,_⟩ | ⟨e5,h5⟩ | ⟨t,rest,h5,h6,h7,h8,h9⟩
     ·exact hbl h5
     ·by_cases ht : (twin b && r.head? == some b) = true
      ·simp only [Bool.and_eq_true,beq_iff_eq] at ht
       cases r with
       | nil => simp at ht
       | cons c r =>
        simp only [List.head?_cons,Option.some.injEq] at ht
        obtain ⟨ht1,rfl⟩:=ht
        have h6:=h5 a
        rw [cut_two a c r ht1] at h6
        cases hq : cut (a + 2) r with
        | ok us => rw [hq] at h6; cases h6
        | bad p2 e2 =>
         rw [hq] at h6
         obtain ⟨k2,hk2,_⟩:=z1q _ _ _ _ hq
         simp only [Res.cons,Res.bad.injEq] at h6
         omega
      ·have h6:=h5 a
       rw [z5d a b r hb (by simpa using hbl) hs (by simpa using ht)] at h6
       cases hq : cut (a + 1) r with
       | ok us => rw [hq] at h6; cases h6
       | bad p2 e2 =>
        rw [hq] at h6
        obtain ⟨k2,hk2,_⟩:=z1q _ _ _ _ hq
        simp only [Res.cons,Res.bad.injEq] at h6
        omega
     ·have h10:=h a
      rw [h9] at h10
      cases hq : cut (a + t.length) rest with
      | ok us => rw [hq] at h10; cases h10
      | bad p2 e2 =>
       rw [hq] at h10
       obtain ⟨k2,hk2,_⟩:=z1q _ _ _ _ hq
       simp only [Res.cons,Res.bad.injEq] at h10
       have:=List.length_pos_iff.2 h5
       omega
    ·rw [z6w a b r hb (by simpa using hbl) (by simpa using hs)] at hc
     cases hc; decide
 | h3 t rest hne hk hap h ih =>
  intro a hc
  rw [h] at hc
  cases hq : cut (a + t.length) rest with
  | ok us => rw [hq] at hc; cases hc
  | bad p2 e2 =>
   rw [hq] at hc
   simp only [Res.cons,Res.bad.injEq] at hc
   obtain ⟨rfl,rfl⟩:=hc
   exact ih _ hq
theorem cutR_ok {s : ByteArray} (h : (cutR s).2.2 = 0) : s.size ≤ 4096 ∧ cut 0 s.data.toList = .ok (cutR s).1 ∧ (cutR s).2.1 = 0:=by
 unfold cutR at h ⊢
 split at h
 ·simp at h
 ·rename_i h4
  rw [if_neg h4]
  cases hc : cut 0 s.data.toList with
  | ok l => exact ⟨by omega,rfl,rfl⟩
  | bad a e => rw [hc] at h; exact absurd h (cut_nonzero 0 hc)
open Go.RowKit Go.Shelf
attribute [local go_sem ↓] Go.wp_at_zero Go.wp_at_succ
theorem singleR_no {s : ByteArray} (h : ∀ t,(cutR s).2.2 = 0 → (cutR s).1 = [t] → t.text ≠ s) : z15 s = (z58,false):=by
 unfold z15
 by_cases hk : z0o s.data.toList = 0
 ·simp [hk]
 ·exfalso
  have h1:=(cut_single s.data.toList [⟨z0o s.data.toList,bsOf s.data.toList,0⟩]).2 ⟨hk,rfl⟩
  have hz:=kind_size hk
  have h2 : cutR s = ([⟨z0o s.data.toList,bsOf s.data.toList,0⟩],0,0):=by rw [cutR,if_neg (by omega),h1.1]
  exact h _ (by rw [h2]) (by rw [h2]) (bsOf_of s)
theorem singleR_yes {s : ByteArray} (t : Tok) (h0 : (cutR s).2.2 = 0) (h1 : (cutR s).1 = [t]) (h2 : t.text = s) : z15 s = (t,true):=by
 obtain ⟨_,hc,_⟩:=cutR_ok h0
 rw [h1] at hc
 have:=(cut_single s.data.toList [t]).1 ⟨hc,rfl,by rw [List.head?_cons,Option.map_some,h2,bsOf_of]⟩
 unfold z15
 rw [if_pos this.1]
 have ht:=(List.cons.inj this.2).1
 rw [ht,bsOf_of]
theorem single38_any (s : ByteArray) (w : World) (hr : Rdy w) : Calls Tryz.prog 204 #[.string s] w fun e w' =>
 e = .returned (.tuple #[(z15 s).1.val,.bool (z15 s).2]) ∧ Below w.heap.size w w':=by
 have HCUT:=Jh (cut9_any s (w.alloc (.cells #[.int .u8 0,.string .empty,.int .i64 0] 194)) (hr.below ((Below.refl _ w).alloc (Nat.le_refl _) _)))
 have hz : (w.alloc (.cells #[.int .u8 0,.string .empty,.int .i64 0] 194)).heap.size = w.heap.size + 1:=by simp
 have HN:=Jh (@singleR_no s)
 have HY:=Jh (@singleR_yes s)
 have HRR : Hid (∀ t b,z15 s = (t,b) → (Ending.returned (.tuple #[t.val,.bool b]) : Ending) = .returned (.tuple #[(z15 s).1.val,.bool (z15 s).2])):=by rintro t b h; rw [h]
 generalize cutR s = C at HCUT HN HY
 obtain ⟨l,at_,er⟩:=C
 dsimp only at HCUT HN HY
 go_enter Tryz.func204,Tryz.ntmps204
 go_wp2_with fail
 refine HCUT.out.mono ?_
 rintro e w1 ⟨⟨v',rfl,hown⟩,hb1⟩
 have hbw : Below w.heap.size w w1:=((Below.refl _ w).alloc (Nat.le_refl _) _).trans (hb1.mono (by rw [hz]; omega))
 have hblk : w1.heap[w.heap.size]? = some (.cells #[.int .u8 0,.string .empty,.int .i64 0] 194 (0,0)):=by
  rw [hb1.block w.heap.size (by rw [hz]; omega)]
  exact Array.getElem?_push_size
 have HBW:=Jh hbw
 have HBL:=Jh hblk
 clear hbw hblk hb1 hz
 by_cases her : er = 0
 ·subst her
  by_cases hln : l.length = 1
  ·obtain ⟨t,rfl⟩ : ∃ t,l = [t]:=List.length_eq_one_iff.1 hln
   obtain ⟨g,cp,rfl,_,hgl,hc,_,_⟩:=hown.at (by simp)
   have h3:=hc 0 (by simp)
   simp only [J5,Nat.zero_mul,Nat.zero_add,Nat.add_zero] at h3
   obtain ⟨g0,g1,g2⟩:=h3
   have hln1 : ((([t] : List Tok).length : Int) != 1) = false:=by simp
   simp only [List.length_cons,List.length_nil,Nat.zero_add] at *
   obtain ⟨tk,tt,tp⟩:=t
   dsimp only at g0 g1 g2
   clear hc hown
   by_cases hx : tt = s
   ·have HF : Hid (z15 s = (⟨tk,tt,tp⟩,true)):=HY.out _ (by trivial) rfl hx
    have HX:=Jh hx
    have q : (tt.toList == s.toList) = true:=by rw [hx]; simp
    clear hx
    have c0:=Jc HBL.out 0
    have c1:=Jc HBL.out 1
    have c2:=Jc HBL.out 2
    have f0:=Jf HBL.out 0
    have f1:=Jf HBL.out 1
    have f2:=Jf HBL.out 2
    simp only [J9,J7,J8] at c0 c1 c2
    go_wp2_with fail
    obtain ⟨k0,k1,k2⟩:=z18 HBL.out (.int .u8 tk) (.string tt) (.int .i64 tp)
    exact bodyPost_ret (z0d rfl rfl rfl (Tryz.isAgg194 _) (Tryz.sizeOf194 _) k0 k1 k2) rfl ⟨by rw [← HRR.out _ _ HF.out]; rfl,z13 HBW.out (Nat.le_refl _) _ _ _⟩
   ·have HF : Hid (z15 s = (z58,false)):=HN.out (fun t _ h => by rw [← (List.cons.inj h).1]; exact hx)
    have q : (tt.toList == s.toList) = false:=by simpa using fun h => hx (z54 h)
    clear hx
    have c0:=Jc HBL.out 0
    have c1:=Jc HBL.out 1
    have c2:=Jc HBL.out 2
    have f0:=Jf HBL.out 0
    have f1:=Jf HBL.out 1
    have f2:=Jf HBL.out 2
    simp only [J9,J7,J8] at c0 c1 c2
    go_wp2_with fail
    obtain ⟨k0,k1,k2⟩:=z18 HBL.out (.int .u8 0) (.string .empty) (.int .i64 0)
    exact bodyPost_ret (z0d rfl rfl rfl (Tryz.isAgg194 _) (Tryz.sizeOf194 _) k0 k1 k2) rfl ⟨by rw [← HRR.out _ _ HF.out]; rfl,z13 HBW.out (Nat.le_refl _) _ _ _⟩
  ·have HF : Hid (z15 s = (z58,false)):=HN.out (fun t _ h => by rw [h] at hln; exact absurd rfl hln)
   obtain ⟨a9,c9,rfl⟩:=hown.shape
   have q : ((l.length : Int) == 1) = false:=by simp; omega
   have q2 : ((l.length : Int) != 1) = true:=by simp; omega
   clear hln hown
   have c0:=Jc HBL.out 0
   have c1:=Jc HBL.out 1
   have c2:=Jc HBL.out 2
   have f0:=Jf HBL.out 0
   have f1:=Jf HBL.out 1
   have f2:=Jf HBL.out 2
   simp only [J9,J7,J8] at c0 c1 c2
   go_wp2_with fail
   obtain ⟨k0,k1,k2⟩:=z18 HBL.out (.int .u8 0) (.string .empty) (.int .i64 0)
   exact bodyPost_ret (z0d rfl rfl rfl (Tryz.isAgg194 _) (Tryz.sizeOf194 _) k0 k1 k2) rfl ⟨by rw [← HRR.out _ _ HF.out]; rfl,z13 HBW.out (Nat.le_refl _) _ _ _⟩
 ·have HF : Hid (z15 s = (z58,false)):=HN.out (fun t h _ => absurd h her)
  have q : (er == 0) = false:=by simpa using her
  have q2 : (er != 0) = true:=by simpa using her
  clear her hown
  have c0:=Jc HBL.out 0
  have c1:=Jc HBL.out 1
  have c2:=Jc HBL.out 2
  have f0:=Jf HBL.out 0
  have f1:=Jf HBL.out 1
  have f2:=Jf HBL.out 2
  simp only [J9,J7,J8] at c0 c1 c2
  go_wp2_with fail
  obtain ⟨k0,k1,k2⟩:=z18 HBL.out (.int .u8 0) (.string .empty) (.int .i64 0)
  exact bodyPost_ret (z0d rfl rfl rfl (Tryz.isAgg194 _) (Tryz.sizeOf194 _) k0 k1 k2) rfl ⟨by rw [← HRR.out _ _ HF.out]; rfl,z13 HBW.out (Nat.le_refl _) _ _ _⟩
open Go.RowKit Go.Shelf
attribute [local go_sem ↓] Go.wp_at_zero Go.wp_at_succ
def wordsL : List UInt8:=[32,116,114,117,101,32,102,97,108,115,101,32,111,111,32]
theorem words_fin : ∀ i : Fin 16,(wordsL.drop i.val).head? = some 32 → ((wordsL.drop i.val).drop 1).takeWhile (· != 32) = [] ∨ ((wordsL.drop i.val).drop 1).takeWhile (· != 32) = [116,114,117,101] ∨ ((wordsL.drop i.val).drop 1).takeWhile (· != 32) = [102,97,108,115,101] ∨ ((wordsL.drop i.val).drop 1).takeWhile (· != 32) = [111,111]:=by decide
theorem takeWhile_sep (l x : List UInt8) (h : ∀ b ∈ l,b ≠ 32) : (l ++ 32 :: x).takeWhile (· != 32) = l:=by
 induction l with
 | nil => simp
 | cons b r ih =>
  have hb : (b != 32) = true:=by simpa using h b (by simp)
  rw [List.cons_append,List.takeWhile_cons,hb,if_pos rfl,ih (fun c hc => h c (by simp [hc]))]
theorem contains_word (l : List UInt8) (hne : l ≠ []) (h : ∀ b ∈ l,b ≠ 32) : Lib.contains wordsL (32 :: l ++ [32]) = (l == [116,114,117,101] || l == [102,97,108,115,101] || l == [111,111]):=by
 rw [Bool.eq_iff_iff]
 constructor
 ·intro hc
  simp only [Lib.contains,decide_eq_true_eq] at hc
  rcases Lib.index_spec wordsL (32 :: l ++ [32]) with ⟨h1,_⟩ | ⟨i,_,h2,h3,_⟩
  ·omega
  ·simp only [Lib.occAt,List.isPrefixOf_iff_prefix] at h3
   obtain ⟨x,hx⟩:=h3
   have hf:=words_fin ⟨i,by have : wordsL.length = 15:=rfl; omega⟩
   simp only at hf
   rw [← hx] at hf
   have h4 : List.takeWhile (fun b : UInt8 => b != 32) (List.drop 1 (32 :: l ++ [32] ++ x)) = l:=by
    have : List.drop 1 (32 :: l ++ [32] ++ x) = l ++ 32 :: x:=by simp
    rw [this,takeWhile_sep l x h]
   rw [h4] at hf
   rcases hf (by simp) with e | e | e | e
   ·exact absurd e hne
   ·simp [e]
   ·simp [e]
   ·simp [e]
 ·intro hc
  simp only [Bool.or_eq_true,beq_iff_eq] at hc
  rcases hc with (e | e) | e <;> subst e <;> decide
theorem row_no_blank {l : List UInt8} (h : l.all z0a = true) : ∀ b ∈ l,b ≠ 32:=by
 rw [List.all_eq_true] at h
 rintro b hb rfl
 have:=h 32 hb
 revert this; decide
theorem kindOf_one {l : List UInt8} : (z0o l == 1) = z2v l:=by
 rw [← kindB_eq]
 unfold kindB
 cases z2v l with
 | true => rfl
 | false =>
  cases numB l with
  | true => rfl
  | false => cases signB l <;> rfl
theorem wordB_row {l : List UInt8} (h : z2v l = true) : l ≠ [] ∧ l.all z0a = true ∧ l.length ≤ 8:=by
 simp only [z2v,Bool.and_eq_true,decide_eq_true_eq,beq_iff_eq] at h
 cases l with
 | nil => simp at h
 | cons b r =>
  refine ⟨by simp,?_,h.1.1.2⟩
  have h1 : z3p b = true:=by simpa using h.1.2
  have h2 : r.all z0a = true:=by simpa using h.2
  simp only [List.all_cons,h2,z0a,h1,Bool.true_or,Bool.and_self]
theorem nameB_single (s : ByteArray) : z4g s.data.toList = ((z15 s).2 && ((z15 s).1.kind == 1) && !(Lib.contains wordsL (32 :: s.data.toList ++ [32]))):=by
 unfold z15 z4g
 by_cases hw : z2v s.data.toList = true
 ·have hk:=kindOf_one (l:=s.data.toList)
  rw [hw] at hk
  have hk1 : z0o s.data.toList = 1:=by simpa using hk
  obtain ⟨h1,h2,_⟩:=wordB_row hw
  rw [if_pos (by rw [hk1]; decide),contains_word _ h1 (row_no_blank h2),hw]
  simp only [hk1,bne,Bool.true_and,beq_self_eq_true,Bool.not_or]
 ·have hw' : z2v s.data.toList = false:=by simpa using hw
  have hk:=kindOf_one (l:=s.data.toList)
  rw [hw'] at hk
  rw [hw']
  split
  ·simp only [hk]; simp
  ·simp
theorem name19_any (s : ByteArray) (hs : s.size ≤ 1048576) (w : World) (hr : Rdy w) : Calls Tryz.prog 136 #[.string s] w fun e w' =>
 e = .returned (.bool (z4g s.data.toList)) ∧ Below w.heap.size w w':=by
 have HSI:=Jh (single38_any s w hr)
 have HE:=Jh (nameB_single s)
 have hadd1 : ∀ W,(Op.stringOp .add ⟨#[32]⟩ s).run Tryz.prog W = .ok (.string (⟨#[32]⟩ ++ s)) W:=fun W => run_string_add_sum W _ s (by show 1 + s.size ≤ _; omega)
 have hsz : ((⟨#[32]⟩ : ByteArray) ++ s).size = 1 + s.size:=by rw [ByteArray.size_append]; rfl
 have hadd2 : ∀ W,(Op.stringOp .add (⟨#[32]⟩ ++ s) ⟨#[32]⟩).run Tryz.prog W = .ok (.string (⟨#[32]⟩ ++ s ++ ⟨#[32]⟩)) W:=fun W => run_string_add_sum W _ _ (by rw [hsz]; show 1 + s.size + 1 ≤ _; omega)
 have hL : ((⟨#[32]⟩ : ByteArray) ++ s ++ ⟨#[32]⟩).data.toList = 32 :: s.data.toList ++ [32]:=by simp [ByteArray.data_append]
 have HC : Hid (∀ W,Rdy W → Calls Tryz.prog 205 #[.string ⟨#[32,116,114,117,101,32,102,97,108,115,101,32,111,111,32]⟩,.string (⟨#[32]⟩ ++ s ++ ⟨#[32]⟩)] W fun e w' => e = .returned (.bool (Lib.contains wordsL (32 :: s.data.toList ++ [32]))) ∧ w' = W):=by
  intro W hW
  obtain ⟨m,hm⟩:=hW.1
  have:=Tryz.strings_Contains ⟨#[32,116,114,117,101,32,102,97,108,115,101,32,111,111,32]⟩ (⟨#[32]⟩ ++ s ++ ⟨#[32]⟩) m W (by decide) hm
  rw [hL] at this
  exact this
 have HR:=Jh hr
 clear hr hsz hL
 generalize (⟨#[32]⟩ : ByteArray) ++ s ++ ⟨#[32]⟩ = Y at hadd2 HC
 generalize (⟨#[32]⟩ : ByteArray) ++ s = X at hadd1 hadd2
 generalize z15 s = S at HSI HE
 obtain ⟨⟨sk,st,sp⟩,ok⟩:=S
 dsimp only [Tok.val] at HSI HE
 generalize Lib.contains wordsL (32 :: s.data.toList ++ [32]) = C at HC HE
 go_enter Tryz.func136,Tryz.ntmps136
 go_wp2_with fail
 refine HSI.out.mono ?_
 rintro e w1 ⟨rfl,hb1⟩
 have HRW:=Jh (HR.out.below hb1)
 have HB:=Jh (hb1.alloc hb1.size (.cells #[.int .u8 sk,.string st,.int .i64 sp] 194))
 clear hb1
 cases ok with
 | false =>
  go_wp2_with fail
  all_goals go_ret
  all_goals exact ⟨z01 (by rw [HE.out]; rfl),HB.out⟩
 | true =>
  cases hk : sk == 1 with
  | false =>
   go_wp2_with fail
   all_goals go_ret
   all_goals exact ⟨z01 (by rw [HE.out,hk]; rfl),HB.out⟩
  | true =>
   have HK:=Jh hk
   have HCA:=Jh (HC.out (w1.alloc (.cells #[.int .u8 sk,.string st,.int .i64 sp] 194)) (HRW.out.below ((Below.refl _ w1).alloc (Nat.le_refl _) _)))
   go_wp2_with (go_at_call 205; refine HCA.out.mono ?_; rintro e w2 ⟨rfl,rfl⟩)
   all_goals go_ret
   all_goals exact ⟨z01 (by rw [HE.out,HK.out]; simp),HB.out⟩
end Go.Proofs.YtockinpjfhhkoaaGreatDoor
