/- rallentandolaw28.WitnessJoins: proofs of neighbours make one of both: the statement, proved for every input that starts with the library's variables as their text lays them. -/
import Derived.SevenTiedAt
import Derived.Test.YtockinpjfhhkoaaGreatDoorTie
import Derived.Test.YtockinpjfhhkoaaGreatDoorCards
import Derived.Test.YtockinpjfhhkoaaGreatDoorZ48
import Derived.Test.YtockinpjfhhkoaaGreatDoorZ51
set_option maxRecDepth 100000
set_option maxHeartbeats 16000000
namespace Go.Proofs.YtockinpjfhhkoaaGreatDoor
open Go.ChangeShapes Go.WideShapes Go.ChangeAt Go.RowKit Go.Joins
theorem z6t (os : Os) (started : os.Started) (H : Type) (enc : TypeId × Value → H) :
 ReturnsInHanded {} Tryz.checked os 10 .any (fun w args => (Rows.witnessJoinsSpec.pre enc Tryz.prog Tryz.f10 [] false w args ∧ laidMetH Tryz.prog Rows.witnessJoinsRow.laid w) ∧ sizedMet enc Tryz.prog Tryz.f10 (OpenSpec.ofChange Rows.witnessJoinsSpec) false w args)
  (Rows.witnessJoinsSpec.post enc Tryz.prog Tryz.f10 false true false false):=by
 refine z58 (C:=Tryz.checked) (X:=fun w _ => laidMet Tryz.prog laidL w) (fun _ _ _ hh h => h.of_heap hh) Tryz.own started (by kernel_rfl) Tryz.func10
  (z43 (enc:=enc) os #[.slice none 0 0,.agg #[.int .u8 0,.slice none 0 0,.slice none 0 0,.int .i64 0,.bool false,.int .i64 0,.bool false,.bool false],.agg #[.int .u8 0,.slice none 0 0,.slice none 0 0,.int .i64 0,.bool false,.int .i64 0,.bool false,.bool false],.slice none 0 0,.agg #[.int .i64 0,.int .i64 0],.agg #[.int .i64 0,.int .i64 0],.agg #[.int .i64 0,.int .i64 0],.agg #[.int .u8 0,.int .u8 0,.slice none 0 0,.slice none 0 0],.agg #[.int .u8 0,.int .u8 0,.slice none 0 0,.slice none 0 0]] 8 (by kernel_rfl) (by kernel_rfl) (by kernel_rfl) (by kernel_rfl) (by kernel_rfl)) ?_
 intro W base args ds gs before hval0 hW hsz0 hL hsh
 have hsz : (DataW.weightsEach Tryz.prog (Tryz.f10.params.toList ++ Rows.witnessJoinsSpec.plain.varTypes Tryz.prog) (ds ++ gs)).all (· ≤ reachBytes) = true:=hsz0
 clear hsz0
 have hval : ∀ (j : Nat) t v,Tryz.f10.params[j]? = some t → args[j]? = some v → Value.okWide Tryz.prog W .any base t v:=hval0
 have hW':=hW
 obtain ⟨p,q,hA0,hV,rfl,hfz,hnd⟩:=hW
 have hA : DataW.TrodAll enc Tryz.prog W 0 (fun _ => true) true Tryz.f10.params.toList args.toList ds p:=hA0
 rw [Tryz.params10] at hA hval hsz
 obtain ⟨v0,v1,v2,v3,v4,v5,v6,v7,v8,d0,d1,d2,d3,d4,d5,d6,d7,d8,p0,p1,p2,p3,p4,p5,p6,p7,p8,rfl,rfl,rfl,h0,h1,h2,h3,h4,h5,h6,h7,h8⟩:=trodAll_nine hA
 obtain ⟨rfl,rfl⟩:=trodVars_none hV
 obtain ⟨f1,hf1⟩:=h1
 obtain ⟨f2,hf2⟩:=h2
 obtain ⟨f7,hf7⟩:=h7
 obtain ⟨f8,hf8⟩:=h8
 obtain ⟨l,hl,hw⟩:=z8u (hval 0 22 v0 rfl rfl) h0
 obtain ⟨c1,e1,_⟩:=okWide_struct Tryz.underlying47 (hval 1 47 v1 rfl rfl)
 obtain ⟨t1,ht1,hb1⟩:=z7h (max f1 f2) (max f1 f2) _ _ _ (by omega) (by omega) hf1
 rw [z1e e1] at ht1
 have hbb1:=hb1 (fun n hn => by simpa using List.all_eq_true.1 hsz _ (DataW.weights_mem_each (j:=1) (t:=47) rfl rfl n hn))
 obtain ⟨c2,e2,_⟩:=okWide_struct Tryz.underlying47 (hval 2 47 v2 rfl rfl)
 obtain ⟨t2,ht2,hb2⟩:=z7h (max f1 f2) (max f1 f2) _ _ _ (by omega) (by omega) hf2
 rw [z1e e2] at ht2
 have hbb2:=hb2 (fun n hn => by simpa using List.all_eq_true.1 hsz _ (DataW.weights_mem_each (j:=2) (t:=47) rfl rfl n hn))
 obtain ⟨l3,hl3⟩:=z7i (hval 3 48 v3 rfl rfl) h3
 obtain ⟨a4,p24,rfl,ia4⟩:=za8 (hval 4 50 v4 rfl rfl) h4
 obtain ⟨a5,p25,rfl,ia5⟩:=za8 (hval 5 50 v5 rfl rfl) h5
 obtain ⟨a6,p26,rfl,ia6⟩:=za8 (hval 6 50 v6 rfl rfl) h6
 obtain ⟨c7,e7,_⟩:=okWide_struct Tryz.underlying56 (hval 7 56 v7 rfl rfl)
 obtain ⟨t7,ht7,hr7⟩:=z64 (max f7 f8) _ _ _ (by omega) hf7
 rw [z1e e7] at ht7
 obtain ⟨c8,e8,_⟩:=okWide_struct Tryz.underlying56 (hval 8 56 v8 rfl rfl)
 obtain ⟨t8,ht8,hr8⟩:=z64 (max f7 f8) _ _ _ (by omega) hf8
 rw [z1e e8] at ht8
 have hw0:=hw (fun n hn => by simpa using List.all_eq_true.1 hsz _ (DataW.weights_mem_each (j:=0) (t:=22) rfl rfl n hn))
 refine (z7b l v0 v3 hw0 t1 t2 v1 v2 l3 a4 p24 a5 p25 a6 p26 t7 t8 v7 v8 W (rdy_of hL hsh) hl ht1 ht2 hl3 ht7 ht8 hr7 hr8 ia4 ia5 ia6 hbb1 hbb2).mono fun e W' ⟨he,hb⟩ => ?_
 exact ⟨_,he,za0 Tryz.laidOut (by rw [Tryz.params10]; intro t ht; simp at ht; rcases ht with rfl | rfl | rfl | rfl | rfl <;> exact ⟨by kernel_rfl,of_decide_eq_true (by kernel_rfl)⟩) rfl rfl Tryz.underlying4 hW' rfl hb⟩
theorem z6u : joinedFacts Tryz.checked.prog 10 Tryz.f10 Rows.witnessJoinsSpec Rows.witnessJoinsRow = true:=by
 unfold joinedFacts
 repeat' (with_reducible refine Bool.and_eq_true_iff.2 ⟨?_,?_⟩)
 all_goals (as_aux_lemma => kernel_rfl)
theorem witnessJoins_row : Rows.WitnessJoinsSaid :=
 OpenClaim.holds_of_wide 10 Tryz.f10 rfl rfl rfl rfl rfl rfl rfl ⟨rfl,rfl,rfl,rfl,rfl⟩ rfl rfl rfl rfl rfl (by kernel_rfl) Tryz.func10 z6u
  (of_decide_eq_true (by kernel_rfl)) (by unfold Func.isWrapper; first | (rw [if_pos (by decide +kernel)]; kernel_rfl) | (rw [if_neg (by decide +kernel)]; exact ⟨rfl,rfl⟩))
  (fun os started H enc _ => z6t os started H enc)
theorem witnessJoins_named : Tryz.prog.funcNamed "rallentando/rallentandolaw28.WitnessJoins" = some 10:=by kernel_rfl
theorem z8p : Tryz.prog.wantsStandIn 22 = false:=by kernel_rfl
theorem z8o : Tryz.prog.wantsStandIn 47 = false:=by kernel_rfl
theorem z8n : Tryz.prog.wantsStandIn 48 = false:=by kernel_rfl
theorem z8m : Tryz.prog.wantsStandIn 50 = false:=by kernel_rfl
theorem z8l : Tryz.prog.wantsStandIn 56 = false:=by kernel_rfl
theorem witnessJoins_holds : Rows.WitnessJoinsCardSaid :=
 Claim7.holds_tied_plain_at .later [] [.data,.data,.data,.sentinel,.sentinel] true (true,"7888cc4b579da9f5c496f8486fec340cc6bb312f1e165db18f84decbf57c7a80") true
  witnessJoins_row (fun _ h => by cases h) (by as_aux_lemma => kernel_rfl) (fun _ h => by cases h) witnessJoins_row_tie rfl ⟨rfl,rfl⟩ (by as_aux_lemma => kernel_rfl) rfl
  (fun f fn hf hfn => by
   obtain rfl : f = 10:=Option.some.inj (witnessJoins_named.symm.trans hf) |>.symm
   obtain rfl : fn = Tryz.f10:=(Option.some.inj (Tryz.func10.symm.trans hfn)).symm
   exact ⟨by as_aux_lemma => kernel_rfl,fun j t ht => by
    rw [Tryz.params10] at ht
    have h3 : t = 22 ∨ t = 47 ∨ t = 48 ∨ t = 50 ∨ t = 56:=by
     rcases j with _ | _ | _ | _ | _ | _ | _ | _ | _ | j
     ·have h4 : t = 22:=by simpa using ht.symm
      simp [h4]
     ·have h4 : t = 47:=by simpa using ht.symm
      simp [h4]
     ·have h4 : t = 47:=by simpa using ht.symm
      simp [h4]
     ·have h4 : t = 48:=by simpa using ht.symm
      simp [h4]
     ·have h4 : t = 50:=by simpa using ht.symm
      simp [h4]
     ·have h4 : t = 50:=by simpa using ht.symm
      simp [h4]
     ·have h4 : t = 50:=by simpa using ht.symm
      simp [h4]
     ·have h4 : t = 56:=by simpa using ht.symm
      simp [h4]
     ·have h4 : t = 56:=by simpa using ht.symm
      simp [h4]
     ·simp at ht
    rcases h3 with rfl | rfl | rfl | rfl | rfl
    ·exact z8p
    ·exact z8o
    ·exact z8n
    ·exact z8m
    ·exact z8l⟩)
  (by as_aux_lemma => kernel_rfl)
#print axioms witnessJoins_holds
end Go.Proofs.YtockinpjfhhkoaaGreatDoor
