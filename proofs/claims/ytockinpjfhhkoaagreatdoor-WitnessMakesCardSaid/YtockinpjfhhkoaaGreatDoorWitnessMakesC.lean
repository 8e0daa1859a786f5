/- rallentandolaw28.WitnessMakes: a proof of a part makes one of what is made of it: the statement, proved for every input that starts with the library's variables as their text lays them. -/
import Derived.SevenTiedAt
import Derived.Test.YtockinpjfhhkoaaGreatDoorTie
import Derived.Test.YtockinpjfhhkoaaGreatDoorCards
import Derived.Test.YtockinpjfhhkoaaGreatDoorZ48
import Derived.Test.YtockinpjfhhkoaaGreatDoorZ50
set_option maxRecDepth 100000
set_option maxHeartbeats 16000000
namespace Go.Proofs.YtockinpjfhhkoaaGreatDoor
open Go.ChangeShapes Go.WideShapes Go.ChangeAt Go.RowKit Go.Joins
theorem z6r (os : Os) (started : os.Started) (H : Type) (enc : TypeId × Value → H) :
 ReturnsInHanded {} Tryz.checked os 9 .any (fun w args => (Rows.witnessMakesSpec.pre enc Tryz.prog Tryz.f9 [] false w args ∧ laidMetH Tryz.prog Rows.witnessMakesRow.laid w) ∧ sizedMet enc Tryz.prog Tryz.f9 (OpenSpec.ofChange Rows.witnessMakesSpec) false w args)
  (Rows.witnessMakesSpec.post enc Tryz.prog Tryz.f9 false true false false):=by
 refine z58 (C:=Tryz.checked) (X:=fun w _ => laidMet Tryz.prog laidL w) (fun _ _ _ hh h => h.of_heap hh) Tryz.own started (by kernel_rfl) Tryz.func9
  (z43 (enc:=enc) os #[.slice none 0 0,.agg #[.int .u8 0,.slice none 0 0,.slice none 0 0,.int .i64 0,.bool false,.int .i64 0,.bool false,.bool false],.agg #[.int .u8 0,.slice none 0 0,.slice none 0 0,.int .i64 0,.bool false,.int .i64 0,.bool false,.bool false],.slice none 0 0,.agg #[.int .i64 0,.int .i64 0,.int .i64 0,.int .i64 0],.agg #[.int .u8 0,.int .u8 0,.slice none 0 0,.slice none 0 0]] 8 (by kernel_rfl) (by kernel_rfl) (by kernel_rfl) (by kernel_rfl) (by kernel_rfl)) ?_
 intro W base args ds gs before hval0 hW hsz0 hL hsh
 have hsz : (DataW.weightsEach Tryz.prog (Tryz.f9.params.toList ++ Rows.witnessMakesSpec.plain.varTypes Tryz.prog) (ds ++ gs)).all (· ≤ reachBytes) = true:=hsz0
 clear hsz0
 have hval : ∀ (j : Nat) t v,Tryz.f9.params[j]? = some t → args[j]? = some v → Value.okWide Tryz.prog W .any base t v:=hval0
 have hW':=hW
 obtain ⟨p,q,hA0,hV,rfl,hfz,hnd⟩:=hW
 have hA : DataW.TrodAll enc Tryz.prog W 0 (fun _ => true) true Tryz.f9.params.toList args.toList ds p:=hA0
 rw [Tryz.params9] at hA hval hsz
 obtain ⟨v0,v1,v2,v3,v4,v5,d0,d1,d2,d3,d4,d5,p0,p1,p2,p3,p4,p5,rfl,rfl,rfl,h0,h1,h2,h3,h4,h5⟩:=trodAll_six hA
 obtain ⟨rfl,rfl⟩:=trodVars_none hV
 obtain ⟨f1,hf1⟩:=h1
 obtain ⟨f2,hf2⟩:=h2
 obtain ⟨f5,hf5⟩:=h5
 obtain ⟨l,hl,hw⟩:=z8u (hval 0 22 v0 rfl rfl) h0
 obtain ⟨c1,e1,_⟩:=okWide_struct Tryz.underlying47 (hval 1 47 v1 rfl rfl)
 obtain ⟨t1,ht1,hb1⟩:=z7h (max f1 f2) (max f1 f2) _ _ _ (by omega) (by omega) hf1
 rw [z1e e1] at ht1
 have hbb1:=hb1 (fun n hn => by simpa using List.all_eq_true.1 hsz _ (DataW.weights_mem_each (j:=1) (t:=47) rfl rfl n hn))
 obtain ⟨c2,e2,_⟩:=okWide_struct Tryz.underlying47 (hval 2 47 v2 rfl rfl)
 obtain ⟨t2,ht2,hb2⟩:=z7h (max f1 f2) (max f1 f2) _ _ _ (by omega) (by omega) hf2
 rw [z1e e2] at ht2
 have hbb2:=hb2 (fun n hn => by simpa using List.all_eq_true.1 hsz _ (DataW.weights_mem_each (j:=2) (t:=47) rfl rfl n hn))
 obtain ⟨l3,hl3⟩:=z7i (hval 3 48 v3 rfl rfl) h3
 obtain ⟨a4,p24,b4,q24,rfl,ia4,ib4⟩:=open_point (hval 4 52 v4 rfl rfl) h4
 obtain ⟨c5,e5,_⟩:=okWide_struct Tryz.underlying56 (hval 5 56 v5 rfl rfl)
 obtain ⟨t5,ht5,hr5⟩:=z64 (f5) _ _ _ (by omega) hf5
 rw [z1e e5] at ht5
 have hw0:=hw (fun n hn => by simpa using List.all_eq_true.1 hsz _ (DataW.weights_mem_each (j:=0) (t:=22) rfl rfl n hn))
 refine (z8k l v0 v3 hw0 t1 t2 v1 v2 l3 a4 p24 b4 q24 t5 v5 W (rdy_of hL hsh) hl ht1 ht2 hl3 ht5 hr5 ia4 ib4 hbb1 hbb2).mono fun e W' ⟨he,hb⟩ => ?_
 exact ⟨_,he,za0 Tryz.laidOut (by rw [Tryz.params9]; intro t ht; simp at ht; rcases ht with rfl | rfl | rfl | rfl | rfl <;> exact ⟨by kernel_rfl,of_decide_eq_true (by kernel_rfl)⟩) rfl rfl Tryz.underlying4 hW' rfl hb⟩
theorem z6s : joinedFacts Tryz.checked.prog 9 Tryz.f9 Rows.witnessMakesSpec Rows.witnessMakesRow = true:=by
 unfold joinedFacts
 repeat' (with_reducible refine Bool.and_eq_true_iff.2 ⟨?_,?_⟩)
 all_goals (as_aux_lemma => kernel_rfl)
theorem witnessMakes_row : Rows.WitnessMakesSaid :=
 OpenClaim.holds_of_wide 9 Tryz.f9 rfl rfl rfl rfl rfl rfl rfl ⟨rfl,rfl,rfl,rfl,rfl⟩ rfl rfl rfl rfl rfl (by kernel_rfl) Tryz.func9 z6s
  (of_decide_eq_true (by kernel_rfl)) (by unfold Func.isWrapper; first | (rw [if_pos (by decide +kernel)]; kernel_rfl) | (rw [if_neg (by decide +kernel)]; exact ⟨rfl,rfl⟩))
  (fun os started H enc _ => z6r os started H enc)
theorem witnessMakes_named : Tryz.prog.funcNamed "rallentando/rallentandolaw28.WitnessMakes" = some 9:=by kernel_rfl
theorem z8j : Tryz.prog.wantsStandIn 22 = false:=by kernel_rfl
theorem z8i : Tryz.prog.wantsStandIn 47 = false:=by kernel_rfl
theorem z8h : Tryz.prog.wantsStandIn 48 = false:=by kernel_rfl
theorem z8g : Tryz.prog.wantsStandIn 52 = false:=by kernel_rfl
theorem z8f : Tryz.prog.wantsStandIn 56 = false:=by kernel_rfl
theorem witnessMakes_holds : Rows.WitnessMakesCardSaid :=
 Claim7.holds_tied_plain_at .later [] [.data,.data,.data,.sentinel,.sentinel] true (true,"7888cc4b579da9f5c496f8486fec340cc6bb312f1e165db18f84decbf57c7a80") true
  witnessMakes_row (fun _ h => by cases h) (by as_aux_lemma => kernel_rfl) (fun _ h => by cases h) witnessMakes_row_tie rfl ⟨rfl,rfl⟩ (by as_aux_lemma => kernel_rfl) rfl
  (fun f fn hf hfn => by
   obtain rfl : f = 9:=Option.some.inj (witnessMakes_named.symm.trans hf) |>.symm
   obtain rfl : fn = Tryz.f9:=(Option.some.inj (Tryz.func9.symm.trans hfn)).symm
   exact ⟨by as_aux_lemma => kernel_rfl,fun j t ht => by
    rw [Tryz.params9] at ht
    have h3 : t = 22 ∨ t = 47 ∨ t = 48 ∨ t = 52 ∨ t = 56:=by
     rcases j with _ | _ | _ | _ | _ | _ | j
     ·have h4 : t = 22:=by simpa using ht.symm
      simp [h4]
     ·have h4 : t = 47:=by simpa using ht.symm
      simp [h4]
     ·have h4 : t = 47:=by simpa using ht.symm
      simp [h4]
     ·have h4 : t = 48:=by simpa using ht.symm
      simp [h4]
     ·have h4 : t = 52:=by simpa using ht.symm
      simp [h4]
     ·have h4 : t = 56:=by simpa using ht.symm
      simp [h4]
     ·simp at ht
    rcases h3 with rfl | rfl | rfl | rfl | rfl
    ·exact z8j
    ·exact z8i
    ·exact z8h
    ·exact z8g
    ·exact z8f⟩)
  (by as_aux_lemma => kernel_rfl)
#print axioms witnessMakes_holds
end Go.Proofs.YtockinpjfhhkoaaGreatDoor
