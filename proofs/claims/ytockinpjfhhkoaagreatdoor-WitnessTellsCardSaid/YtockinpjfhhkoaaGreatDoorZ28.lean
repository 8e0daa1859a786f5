/- The book of layer 15: letters, digits, words, names. -/
import Derived.Deep.QuietTactic
import Derived.Test.YtockinpjfhhkoaaGreatDoorZ00
import Derived.Test.YtockinpjfhhkoaaGreatDoorZ07
import Derived.Test.YtockinpjfhhkoaaGreatDoorZ02
set_option maxRecDepth 100000
set_option maxHeartbeats 16000000
open List renaming getElem?_cons_zero → J7, getElem?_cons_succ → J8
open Go.Lib renaming hid → Jh
namespace Go.Proofs.YtockinpjfhhkoaaGreatDoor
open Go.RowKit Go.Shelf
theorem z5b (b : UInt8) (w : World) : Calls Tryz.prog 235 #[.int .u8 b.toNat] w fun e w' => e = .returned (.bool (z3p b)) ∧ w' = w:=by
 go_enter Tryz.func235,Tryz.ntmps235
 go_wp2
 all_goals go_ret
 all_goals (refine z2b ?_; rw [Bool.eq_iff_iff]; simp [z3p]; try omega)
theorem digit_any (b : UInt8) (w : World) : Calls Tryz.prog 236 #[.int .u8 b.toNat] w fun e w' => e = .returned (.bool (z33 b)) ∧ w' = w:=by
 go_enter Tryz.func236,Tryz.ntmps236
 go_wp2
 all_goals go_ret
 all_goals (refine z2b ?_; rw [Bool.eq_iff_iff]; simp [z33]; try omega)
theorem word_any (s : ByteArray) (hs : s.size ≤ 4611686018427387904) (w : World) : Calls Tryz.prog 219 #[.string s] w fun e w' => e = .returned (.bool (z2v s.data.toList)) ∧ w' = w:=by
 have HS:=z3b s
 by_cases h1 : 1 ≤ s.size
 ·by_cases h8 : s.size ≤ 8
  ·have hg:=z2l s 0 (by omega)
   generalize hc0 : s[0]'(by omega) = c0 at hg
   have HV : Hid (z2v s.data.toList = (z3p c0 && (s.data.toList.drop 1).all z0a)):=by
    rw [Hid,z2v,HS]
    have : s.data.toList.head? = some c0:=by rw [hg,List.head?_eq_getElem?,List.getElem?_eq_getElem]
    simp [h1,h8,this]
   clear hg
   cases hl : z3p c0 with
   | false =>
    have HL:=Jh hl
    clear hl
    go_enter Tryz.func219,Tryz.ntmps219
    go_wp2_with (go_at_call 235; refine (z5b c0 _).mono ?_; rintro e w' ⟨rfl,rfl⟩; rw [HL.out])
    go_ret
    exact z2b (by rw [HV.out,HL.out]; rfl)
   | true =>
    have HL:=Jh hl
    clear hl
    go_enter Tryz.func219,Tryz.ntmps219
    go_wp2_with (go_at_call 235; refine (z5b c0 _).mono ?_; rintro e w' ⟨rfl,rfl⟩; rw [HL.out])
    go_loop [3] (fun i => ∃ k : Nat,1 ≤ k ∧ k ≤ s.size ∧ i = .int .i64 k ∧ Hid ((s.data.toList.drop 1).all z0a = (s.data.toList.drop k).all z0a)) (fun i => s.size - (intOf i).toNat)
    case atStart => exact ⟨1,by omega,by omega,rfl,rfl⟩
    case round =>
     obtain ⟨k,hk1,hk,rfl,HA⟩:=hrel
     by_cases hlt : k < s.size
     ·have hg:=z2l s k hlt
      generalize hck : s[k]'hlt = c at hg
      have HD : Hid ((s.data.toList.drop k).all z0a = (z0a c && (s.data.toList.drop (k + 1)).all z0a)):=by
       rw [Hid,List.drop_eq_getElem_cons (by rw [HS]; exact hlt),← hg]; rfl
      clear hg
      go_wp2_with (first
       | (go_at_call 235; refine (z5b c _).mono ?_; rintro e w' ⟨rfl,rfl⟩)
       | (go_at_call 236; refine (digit_any c _).mono ?_; rintro e w' ⟨rfl,rfl⟩))
      ·have hr : z0a c = true:=by simp_all [z0a]
       exact ⟨⟨k + 1,by omega,by omega,by push_cast; rfl,by rw [Hid,HA.out,HD.out,hr]; rfl⟩,by simp [intOf]; omega⟩
      ·have hr : z0a c = false:=by simp_all [z0a]
       go_ret
       exact z2b (by rw [HV.out,HL.out,HA.out,HD.out,hr]; rfl)
      ·have hr : z0a c = true:=by simp_all [z0a]
       exact ⟨⟨k + 1,by omega,by omega,by push_cast; rfl,by rw [Hid,HA.out,HD.out,hr]; rfl⟩,by simp [intOf]; omega⟩
     ·have HE : Hid ((s.data.toList.drop k).all z0a = true):=by rw [Hid,List.drop_of_length_le (by omega)]; rfl
      go_wp2
      go_ret
      exact z2b (by rw [HV.out,HL.out,HA.out,HE.out]; rfl)
  ·go_enter Tryz.func219,Tryz.ntmps219
   go_wp2
   go_ret
   exact z2b (by simp [z2v,HS,h8])
 ·go_enter Tryz.func219,Tryz.ntmps219
  go_wp2
  go_ret
  exact z2b (by simp [z2v,HS,h1])
theorem name95_any (s : ByteArray) (hs : s.size ≤ 4611686018427387904) (w : World) : Calls Tryz.prog 177 #[.string s] w fun e w' => e = .returned (.bool (z4g s.data.toList)) ∧ w' = w:=by
 go_enter Tryz.func177,Tryz.ntmps177
 go_wp2_with (go_at_call 219; refine (word_any _ hs _).mono ?_; rintro e w' ⟨rfl,rfl⟩)
 all_goals go_ret
 all_goals (refine z2b ?_; rw [← ByteArray.toList_eq] at *; simp_all [z4g,bne])
open Go.RowKit
theorem beqT (a b : List UInt8) : (a == b) = (b == a):=by
 rw [Bool.eq_iff_iff,beq_iff_eq,beq_iff_eq]
 exact eq_comm
theorem at96_any (l : List ByteArray) (v : Value) (s : ByteArray) (w : World) (hn : NRep w w.heap.size v l) :
 Calls Tryz.prog 165 #[v,.string s] w fun e w' => e = .returned (.int .i64 (idxN s l)) ∧ w' = w:=by
 obtain ⟨a,c,rfl,hm,hn⟩:=hn
 have HA : Hid (∀ j (h : j < l.length),(∀ i (hi : i < l.length),i < j → ((l[i]).toList == s.toList) = false) → ((l[j]).toList == s.toList) = true → idxN s l = j):=by
  intro j h h0 h1
  exact idxN_at s l j h (fun i hi hlt => by rw [beqT]; exact h0 i hi hlt) (by rw [beqT]; exact h1)
 have HN : Hid ((∀ i (hi : i < l.length),i < l.length → ((l[i]).toList == s.toList) = false) → idxN s l = -1):=by
  intro h0
  exact idxN_none s l (fun i hi hlt => by rw [beqT]; exact h0 i hi hlt)
 go_enter Tryz.func165,Tryz.ntmps165
 go_wp2_with fail
 go_loopw [5] (fun i wr => ∃ j : Nat,j ≤ l.length ∧ i = .int .i64 j ∧ Hid (∀ i (hi : i < l.length),i < j → ((l[i]).toList == s.toList) = false) ∧ wr = w) (fun i _ => l.length - (intOf i).toNat)
 case atStart => exact ⟨0,Nat.zero_le _,rfl,fun _ _ h => absurd h (by omega),rfl⟩
 case round =>
  obtain ⟨j,hj,rfl,HT,rfl⟩:=hrel
  by_cases hlt : j < l.length
  ·rcases hn with hn | ⟨b,off,rfl,hb,hc⟩
   ·rw [hn] at hlt; exact absurd hlt (by simp)
   ·have c0:=hc j hlt
    have HC:=Jh hc
    clear hc
    have HAj:=Jh (HA.out j hlt HT.out)
    have hltI : ((j : Nat) : Int) < ((l.length : Nat) : Int):=by omega
    cases q : ((l[j]).toList == s.toList) with
    | true =>
     have HR:=Jh (HAj.out q)
     go_wp2_with fail
     all_goals go_ret
     all_goals exact ⟨z0u (by rw [HR.out]),rfl⟩
    | false =>
     have HT' : Hid (∀ i (hi : i < l.length),i < j + 1 → ((l[i]).toList == s.toList) = false):=by
      intro i hi hlt2
      by_cases he : i = j
      ·subst he; exact q
      ·exact HT.out i hi (by omega)
     go_wp2_with fail
     go_roundw
     case rel => exact ⟨j + 1,by omega,by go_num,HT',by first | trivial | rfl⟩
     case measure => simp [intOf]; omega
  ·have hje : j = l.length:=by omega
   have HR : Hid (idxN s l = -1):=HN.out (fun i hi _ => HT.out i hi (by omega))
   have hltI : ¬ ((j : Nat) : Int) < ((l.length : Nat) : Int):=by omega
   go_wp2_with fail
   all_goals go_ret
   all_goals exact ⟨z0u (by rw [HR.out]),rfl⟩
def z6j (l : List ByteArray) (j : Nat) : Bool:=(List.range j).all fun i => match l[i]? with
 | some x => z4g x.data.toList && (idxN x l == (i : Int))
 | none => true
theorem mayGo_succ (l : List ByteArray) (j : Nat) (h : j < l.length) : z6j l (j + 1) = (z6j l j && (z4g l[j].data.toList && (idxN l[j] l == (j : Int)))):=by
 unfold z6j
 rw [List.range_succ,List.all_append]
 simp [h]
theorem idxN_first (l : List ByteArray) (j : Nat) (h : j < l.length) : (idxN l[j] l == (j : Int)) = !inN l[j] (l.take j):=by
 by_cases hin : inN l[j] (l.take j) = true
 ·rw [hin]
  unfold inN at hin
  rw [List.any_eq_true] at hin
  obtain ⟨x,hx,he⟩:=hin
  obtain ⟨i,hi,rfl⟩:=List.getElem_of_mem hx
  rw [List.length_take] at hi
  rw [List.getElem_take] at he
  have hlt : idxN l[j] l ≠ (j : Int):=by
   intro e
   unfold idxN at e
   cases hf : l.findIdx? (fun x => l[j].toList == x.toList) with
   | none =>
    rw [List.findIdx?_eq_none_iff] at hf
    have:=hf l[j] (List.getElem_mem _)
    simp at this
   | some k =>
    rw [hf] at e
    rw [List.findIdx?_eq_some_iff_getElem] at hf
    obtain ⟨hk,_,h2⟩:=hf
    have hkj : k = j:=by
     have e' : (k : Int) = (j : Int):=e
     omega
    have:=h2 i (by omega)
    rw [he] at this
    simp at this
  simpa using hlt
 ·have hin' : inN l[j] (l.take j) = false:=by simpa using hin
  rw [hin']
  have:=idxN_at l[j] l j h (fun i hi hlt => by
   by_cases hq : (l[j].toList == (l[i]).toList) = true
   ·exfalso
    apply hin
    unfold inN
    rw [List.any_eq_true]
    exact ⟨l[i],by rw [List.mem_take_iff_getElem]; exact ⟨i,by omega,rfl⟩,hq⟩
   ·simpa using hq) (by simp)
  rw [this]
  simp
theorem z5l (l : List ByteArray) : ∀ (r p : List ByteArray),p ++ r = l → z1c p.reverse r = ((List.range r.length).all fun i => match r[i]? with
 | some x => z4g x.data.toList && !inN x (l.take (p.length + i))
 | none => true)
 | [],p,_ => rfl
 | x :: r,p,h => by
  have hx : inN x p.reverse = inN x p:=by unfold inN; rw [List.any_reverse]
  have ht : l.take p.length = p:=by rw [← h]; simp
  have ih:=z5l l r (p ++ [x]) (by rw [← h]; simp)
  rw [List.reverse_append] at ih
  have ih' : z1c (x :: p.reverse) r = _:=ih
  rw [z1c,ih',hx,List.length_cons,List.range_succ_eq_map,List.all_cons,List.all_map]
  simp only [J7,Nat.add_zero,ht]
  rw [Bool.and_comm (!inN x p)]
  congr 1
  apply congrArg
  funext i
  simp only [Function.comp,J8,List.length_append,List.length_cons,List.length_nil]
  rw [show p.length + (0 + 1) + i = p.length + (i + 1) by omega]
theorem mayGo_all (l : List ByteArray) : z6j l l.length = z1c [] l:=by
 rw [show ([] : List ByteArray) = ([] : List ByteArray).reverse from rfl,z5l l l [] rfl]
 unfold z6j
 rw [List.all_eq,List.all_eq]
 congr 1
 apply propext
 constructor
 ·intro h i hi
  have:=h i hi
  rw [List.mem_range] at hi
  rw [List.getElem?_eq_getElem hi] at this ⊢
  dsimp only at this ⊢
  rw [idxN_first l i hi] at this
  simpa using this
 ·intro h i hi
  have:=h i hi
  rw [List.mem_range] at hi
  rw [List.getElem?_eq_getElem hi] at this ⊢
  dsimp only at this ⊢
  rw [idxN_first l i hi]
  simpa using this
open Go.RowKit
theorem mayR_eq (l : List ByteArray) : decide (z0r l = 0) = (z6j l l.length && decide (l.length ≤ 8)):=by
 rw [mayGo_all]
 unfold z0r
 cases z1c [] l <;> by_cases h : 8 < l.length <;> simp [h] <;> omega
theorem mayGo_false (l : List ByteArray) (j : Nat) (h : j < l.length) (hn : z6j l (j + 1) = false) : decide (z0r l = 0) = false:=by
 rw [mayR_eq]
 have : z6j l l.length = false:=by
  unfold z6j at hn ⊢
  rw [List.all_eq_false] at hn ⊢
  obtain ⟨i,hi,hx⟩:=hn
  exact ⟨i,by rw [List.mem_range] at hi ⊢; omega,hx⟩
 rw [this]; rfl
theorem mayNames46_any (l : List ByteArray) (v : Value) (hs : ∀ s ∈ l,s.size ≤ 4611686018427387904) (w : World) (hn : NRep w w.heap.size v l) :
 Calls Tryz.prog 103 #[v] w fun e w' => e = .returned (.bool (decide (z0r l = 0))) ∧ w' = w:=by
 have HN:=Jh hn
 obtain ⟨a,c,rfl,hm,hn⟩:=hn
 have HS:=Jh hs
 have HF:=Jh (mayGo_false l)
 have HG:=Jh (mayGo_succ l)
 have HE:=Jh (mayR_eq l)
 clear hs
 go_enter Tryz.func103,Tryz.ntmps103
 go_wp2_with fail
 go_loopw [3] (fun i wr => ∃ j : Nat,j ≤ l.length ∧ i = .int .i64 j ∧ Hid (z6j l j = true) ∧ wr = w) (fun i _ => l.length - (intOf i).toNat)
 case atStart => exact ⟨0,Nat.zero_le _,rfl,rfl,rfl⟩
 case round =>
  obtain ⟨j,hj,rfl,HT,rfl⟩:=hrel
  by_cases hlt : j < l.length
  ·rcases hn with hn | ⟨b,off,rfl,hb,hc⟩
   ·rw [hn] at hlt; exact absurd hlt (by simp)
   ·have c0:=hc j hlt
    have hltI : ((j : Nat) : Int) < ((l.length : Nat) : Int):=by omega
    have HC1:=Jh (name95_any l[j] (HS.out _ (List.getElem_mem hlt)) wr)
    have HC2:=Jh (at96_any l _ l[j] wr HN.out)
    have HJ:=Jh (HG.out j hlt)
    have HX:=Jh (HF.out j hlt)
    clear hc
    cases qn : z4g l[j].data.toList with
    | false =>
     have HR : Hid (decide (z0r l = 0) = false):=HX.out (by rw [HJ.out,qn]; simp)
     rw [qn] at HC1
     clear qn
     go_wp2_with fail
     refine HC1.out.mono ?_
     rintro e w' ⟨rfl,rfl⟩
     go_wp2_with fail
     all_goals go_ret
     all_goals exact ⟨z01 (by rw [HR.out]),rfl⟩
    | true =>
     by_cases qi : idxN l[j] l = (j : Int)
     ·have HT' : Hid (z6j l (j + 1) = true):=by rw [Hid,HJ.out,HT.out,qn,qi]; simp
      rw [qn] at HC1
      rw [qi] at HC2
      clear qn qi
      go_wp2_with fail
      refine HC1.out.mono ?_
      rintro e w' ⟨rfl,rfl⟩
      go_wp2_with fail
      refine HC2.out.mono ?_
      rintro e w' ⟨rfl,rfl⟩
      go_wp2_with fail
      go_roundw
      case rel => exact ⟨j + 1,by omega,by go_num,HT',by first | trivial | rfl⟩
      case measure => simp [intOf]; omega
     ·have HR : Hid (decide (z0r l = 0) = false):=HX.out (by rw [HJ.out]; simp [qi])
      have q1 : (idxN l[j] l != (j : Int)) = true:=by simp [qi]
      rw [qn] at HC1
      generalize idxN l[j] l = z at HC2 q1
      clear qn qi
      go_wp2_with fail
      refine HC1.out.mono ?_
      rintro e w' ⟨rfl,rfl⟩
      go_wp2_with fail
      refine HC2.out.mono ?_
      rintro e w' ⟨rfl,rfl⟩
      go_wp2_with fail
      all_goals go_ret
      all_goals exact ⟨z01 (by rw [HR.out]),rfl⟩
  ·have hje : j = l.length:=by omega
   subst hje
   have hltI : ¬ ((l.length : Nat) : Int) < ((l.length : Nat) : Int):=by omega
   clear hn
   go_wp2_with fail
   all_goals go_ret
   all_goals exact ⟨z01 (by rw [HE.out,HT.out,Bool.true_and]; rw [Bool.eq_iff_iff]; simp; try omega),rfl⟩
def mayI (i : Spn) : Bool:=!(i.op && (i.high != 0 || i.hs)) && (z2u i.low && z2u i.high)
def empI (i : Spn) : Bool:=!i.op && (decide (i.high < i.low) || (i.low == i.high && (i.ls || i.hs)))
theorem mayI_iv (i : Spn) : mayI i = !(ivR i == 8):=by
 unfold mayI ivR
 generalize z2u i.low = a
 generalize z2u i.high = b
 generalize (i.op && (i.high != 0 || i.hs)) = c
 generalize (!i.op && (decide (i.high < i.low) || (i.low == i.high && (i.ls || i.hs)))) = d
 cases a <;> cases b <;> cases c <;> cases d <;> rfl
theorem ivR_two (i : Spn) : ivR i = if mayI i then (if empI i then 162 else 0) else 8:=by
 unfold mayI ivR empI
 generalize z2u i.low = a
 generalize z2u i.high = b
 generalize (i.op && (i.high != 0 || i.hs)) = c
 generalize (!i.op && (decide (i.high < i.low) || (i.low == i.high && (i.ls || i.hs)))) = d
 cases a <;> cases b <;> cases c <;> cases d <;> rfl
theorem z4h (i : Spn) (w : World) : Calls Tryz.prog 178 #[i.val] w fun e w' => e = .returned (.bool (mayI i)) ∧ Below w.heap.size w w':=by
 obtain ⟨lo,ls,hi,hs,op⟩:=i
 unfold Spn.val
 dsimp only
 go_enter Tryz.func178,Tryz.ntmps178
 go_wp2_with fail
 all_goals go_ret
 all_goals (refine ⟨?_,(Below.refl _ _).alloc (Nat.le_refl _) _⟩; refine z01 ?_; unfold mayI z2u; dsimp only; simp_all; try omega)
theorem empty132_any (i : Spn) (w : World) : Calls Tryz.prog 179 #[i.val] w fun e w' => e = .returned (.bool (empI i)) ∧ Below w.heap.size w w':=by
 obtain ⟨lo,ls,hi,hs,op⟩:=i
 unfold Spn.val
 dsimp only
 go_enter Tryz.func179,Tryz.ntmps179
 go_wp2_with fail
 all_goals go_ret
 all_goals (refine ⟨?_,(Below.refl _ _).alloc (Nat.le_refl _) _⟩; refine z01 ?_; unfold empI; dsimp only; rw [Bool.eq_iff_iff]; simp_all; first | done | omega | (rw [show lo = hi by omega]; simp))
end Go.Proofs.YtockinpjfhhkoaaGreatDoor
