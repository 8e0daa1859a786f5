/- rallentandolaw28.WitnessStays: a proof shows the same of a signal that goes on, or is cut, and lies within: the statement, proved for every input that starts with the library's variables as their text lays them. -/
import Derived.SevenTiedAt
import Derived.Test.YtockinpjfhhkoaaGreatDoorTie
import Derived.Test.YtockinpjfhhkoaaGreatDoorCards
import Derived.Test.YtockinpjfhhkoaaGreatDoorZ48
import Derived.Test.YtockinpjfhhkoaaGreatDoorZ53
import Derived.Test.YtockinpjfhhkoaaGreatDoorZ54
set_option maxRecDepth 100000
set_option maxHeartbeats 16000000
namespace Go.Proofs.YtockinpjfhhkoaaGreatDoor
open Go.ChangeShapes Go.WideShapes Go.ChangeAt Go.RowKit Go.Joins
theorem z6n (os : Os) (started : os.Started) (H : Type) (enc : TypeId × Value → H) :
 ReturnsInHanded {} Tryz.checked os 11 .any (fun w args => (Rows.witnessStaysSpec.pre enc Tryz.prog Tryz.f11 [] false w args ∧ laidMetH Tryz.prog Rows.witnessStaysRow.laid w) ∧ sizedMet enc Tryz.prog Tryz.f11 (OpenSpec.ofChange Rows.witnessStaysSpec) false w args)
  (Rows.witnessStaysSpec.post enc Tryz.prog Tryz.f11 false true false false):=by
 refine z58 (C:=Tryz.checked) (X:=fun w _ => laidMet Tryz.prog laidL w) (fun _ _ _ hh h => h.of_heap hh) Tryz.own started (by kernel_rfl) Tryz.func11
  (z43 (enc:=enc) os #[.slice none 0 0,.agg #[.int .u8 0,.slice none 0 0,.slice none 0 0,.int .i64 0,.bool false,.int .i64 0,.bool false,.bool false],.slice none 0 0,.slice none 0 0,.agg #[.int .i64 0,.int .i64 0,.int .i64 0,.int .i64 0],.agg #[.int .u8 0,.int .u8 0,.slice none 0 0,.slice none 0 0],.int .i64 0] 8 (by kernel_rfl) (by kernel_rfl) (by kernel_rfl) (by kernel_rfl) (by kernel_rfl)) ?_
 intro W base args ds gs before hval0 hW hsz0 hL hsh
 have hsz : (DataW.weightsEach Tryz.prog (Tryz.f11.params.toList ++ Rows.witnessStaysSpec.plain.varTypes Tryz.prog) (ds ++ gs)).all (· ≤ reachBytes) = true:=hsz0
 clear hsz0
 have hval : ∀ (j : Nat) t v,Tryz.f11.params[j]? = some t → args[j]? = some v → Value.okWide Tryz.prog W .any base t v:=hval0
 have hW':=hW
 obtain ⟨p,q,hA0,hV,rfl,hfz,hnd⟩:=hW
 have hA : DataW.TrodAll enc Tryz.prog W 0 (fun _ => true) true Tryz.f11.params.toList args.toList ds p:=hA0
 rw [Tryz.params11] at hA hval hsz
 obtain ⟨v0,v1,v2,v3,v4,v5,v6,d0,d1,d2,d3,d4,d5,d6,p0,p1,p2,p3,p4,p5,p6,rfl,rfl,rfl,h0,h1,h2,h3,h4,h5,h6⟩:=trodAll_seven hA
 obtain ⟨rfl,rfl⟩:=trodVars_none hV
 obtain ⟨f1,hf1⟩:=h1
 obtain ⟨f5,hf5⟩:=h5
 obtain ⟨l,hl,hw⟩:=z8u (hval 0 22 v0 rfl rfl) h0
 obtain ⟨c1,e1,_⟩:=okWide_struct Tryz.underlying47 (hval 1 47 v1 rfl rfl)
 obtain ⟨t1,ht1,hb1⟩:=z7h (f1) (f1) _ _ _ (by omega) (by omega) hf1
 rw [z1e e1] at ht1
 have hbb1:=hb1 (fun n hn => by simpa using List.all_eq_true.1 hsz _ (DataW.weights_mem_each (j:=1) (t:=47) rfl rfl n hn))
 obtain ⟨l2,hl2⟩:=z7i (hval 2 48 v2 rfl rfl) h2
 obtain ⟨l3,hl3⟩:=z7i (hval 3 48 v3 rfl rfl) h3
 obtain ⟨a4,p24,b4,q24,rfl,ia4,ib4⟩:=open_point (hval 4 52 v4 rfl rfl) h4
 obtain ⟨c5,e5,_⟩:=okWide_struct Tryz.underlying56 (hval 5 56 v5 rfl rfl)
 obtain ⟨t5,ht5,hr5⟩:=z64 (f5) _ _ _ (by omega) hf5
 rw [z1e e5] at ht5
 obtain ⟨z,rfl,_⟩:=open_int (k:=.i64) Tryz.underlying3 (hval 6 3 v6 rfl rfl) h6
 have hw0:=hw (fun n hn => by simpa using List.all_eq_true.1 hsz _ (DataW.weights_mem_each (j:=0) (t:=22) rfl rfl n hn))
 refine (z7a l v0 v2 v3 hw0 t1 v1 l2 l3 a4 p24 b4 q24 z t5 v5 W (rdy_of hL hsh) hl ht1 hl2 hl3 ht5 hr5 ia4 ib4).mono fun e W' ⟨he,hb⟩ => ?_
 exact ⟨_,he,za0 Tryz.laidOut (by rw [Tryz.params11]; intro t ht; simp at ht; rcases ht with rfl | rfl | rfl | rfl | rfl | rfl <;> exact ⟨by kernel_rfl,of_decide_eq_true (by kernel_rfl)⟩) rfl rfl Tryz.underlying4 hW' rfl hb⟩
theorem z6o : joinedFacts Tryz.checked.prog 11 Tryz.f11 Rows.witnessStaysSpec Rows.witnessStaysRow = true:=by
 unfold joinedFacts
 repeat' (with_reducible refine Bool.and_eq_true_iff.2 ⟨?_,?_⟩)
 all_goals (as_aux_lemma => kernel_rfl)
theorem witnessStays_row : Rows.WitnessStaysSaid :=
 OpenClaim.holds_of_wide 11 Tryz.f11 rfl rfl rfl rfl rfl rfl rfl ⟨rfl,rfl,rfl,rfl,rfl⟩ rfl rfl rfl rfl rfl (by kernel_rfl) Tryz.func11 z6o
  (of_decide_eq_true (by kernel_rfl)) (by unfold Func.isWrapper; first | (rw [if_pos (by decide +kernel)]; kernel_rfl) | (rw [if_neg (by decide +kernel)]; exact ⟨rfl,rfl⟩))
  (fun os started H enc _ => z6n os started H enc)
theorem witnessStays_named : Tryz.prog.funcNamed "rallentando/rallentandolaw28.WitnessStays" = some 11:=by kernel_rfl
theorem z9n : Tryz.prog.wantsStandIn 3 = false:=by kernel_rfl
theorem z8d : Tryz.prog.wantsStandIn 22 = false:=by kernel_rfl
theorem z8c : Tryz.prog.wantsStandIn 47 = false:=by kernel_rfl
theorem z8b : Tryz.prog.wantsStandIn 48 = false:=by kernel_rfl
theorem z8a : Tryz.prog.wantsStandIn 52 = false:=by kernel_rfl
theorem z89 : Tryz.prog.wantsStandIn 56 = false:=by kernel_rfl
theorem witnessStays_holds : Rows.WitnessStaysCardSaid :=
 Claim7.holds_tied_plain_at .later [] [.data,.data,.data,.sentinel,.sentinel] true (true,"7888cc4b579da9f5c496f8486fec340cc6bb312f1e165db18f84decbf57c7a80") true
  witnessStays_row (fun _ h => by cases h) (by as_aux_lemma => kernel_rfl) (fun _ h => by cases h) witnessStays_row_tie rfl ⟨rfl,rfl⟩ (by as_aux_lemma => kernel_rfl) rfl
  (fun f fn hf hfn => by
   obtain rfl : f = 11:=Option.some.inj (witnessStays_named.symm.trans hf) |>.symm
   obtain rfl : fn = Tryz.f11:=(Option.some.inj (Tryz.func11.symm.trans hfn)).symm
   exact ⟨by as_aux_lemma => kernel_rfl,fun j t ht => by
    rw [Tryz.params11] at ht
    have h3 : t = 3 ∨ t = 22 ∨ t = 47 ∨ t = 48 ∨ t = 52 ∨ t = 56:=by
     rcases j with _ | _ | _ | _ | _ | _ | _ | j
     ·have h4 : t = 22:=by simpa using ht.symm
      simp [h4]
     ·have h4 : t = 47:=by simpa using ht.symm
      simp [h4]
     ·have h4 : t = 48:=by simpa using ht.symm
      simp [h4]
     ·have h4 : t = 48:=by simpa using ht.symm
      simp [h4]
     ·have h4 : t = 52:=by simpa using ht.symm
      simp [h4]
     ·have h4 : t = 56:=by simpa using ht.symm
      simp [h4]
     ·have h4 : t = 3:=by simpa using ht.symm
      simp [h4]
     ·simp at ht
    rcases h3 with rfl | rfl | rfl | rfl | rfl | rfl
    ·exact z9n
    ·exact z8d
    ·exact z8c
    ·exact z8b
    ·exact z8a
    ·exact z89⟩)
  (by as_aux_lemma => kernel_rfl)
#print axioms witnessStays_holds
end Go.Proofs.YtockinpjfhhkoaaGreatDoor
