/- rallentandolaw28.WitnessTells: whether a proof shows a match is as is said: the statement, proved for every input that starts with the library's variables as their text lays them. -/
import Derived.SevenTiedAt
import Derived.Test.YtockinpjfhhkoaaGreatDoorTie
import Derived.Test.YtockinpjfhhkoaaGreatDoorCards
import Derived.Test.YtockinpjfhhkoaaGreatDoorZ27
import Derived.Test.YtockinpjfhhkoaaGreatDoorZ50
set_option maxRecDepth 100000
set_option maxHeartbeats 16000000
namespace Go.Proofs.YtockinpjfhhkoaaGreatDoor
open Go.ChangeShapes Go.WideShapes Go.ChangeAt Go.RowKit Go.Joins
theorem trodAll_five {H : Type} {enc : TypeId × Value → H} {P : Program} {w : World} {base : Nat} {spare : Nat → Bool} {held : Bool} {t0 t1 t2 t3 t4 : TypeId} {args : Array Value} {ds : List (DataW H)} {ps : List MemPlace} (h : DataW.TrodAll enc P w base spare held [t0,t1,t2,t3,t4] args.toList ds ps) :
 ∃ v0 v1 v2 v3 v4 d0 d1 d2 d3 d4 p0 p1 p2 p3 p4,args = #[v0,v1,v2,v3,v4] ∧ ds = [d0,d1,d2,d3,d4] ∧ ps = p0 ++ p1 ++ p2 ++ p3 ++ p4 ∧ DataW.Trod enc P w base spare held t0 v0 d0 p0 ∧ DataW.Trod enc P w base spare held t1 v1 d1 p1 ∧ DataW.Trod enc P w base spare held t2 v2 d2 p2 ∧ DataW.Trod enc P w base spare held t3 v3 d3 p3 ∧ DataW.Trod enc P w base spare held t4 v4 d4 p4:=by
 obtain ⟨v0,r0,d0,s0,p0,q0,hargs,rfl,rfl,h0,h⟩:=trodAll_cons h
 obtain ⟨v1,r1,d1,s1,p1,q1,rfl,rfl,rfl,h1,h⟩:=trodAll_cons h
 obtain ⟨v2,r2,d2,s2,p2,q2,rfl,rfl,rfl,h2,h⟩:=trodAll_cons h
 obtain ⟨v3,r3,d3,s3,p3,q3,rfl,rfl,rfl,h3,h⟩:=trodAll_cons h
 obtain ⟨v4,r4,d4,s4,p4,q4,rfl,rfl,rfl,h4,h⟩:=trodAll_cons h
 obtain ⟨rfl,rfl,rfl⟩:=trodAll_nil h
 exact ⟨v0,v1,v2,v3,v4,d0,d1,d2,d3,d4,p0,p1,p2,p3,p4,by cases args; simp_all,rfl,by simp,h0,h1,h2,h3,h4⟩
theorem z3w (os : Os) (started : os.Started) (H : Type) (enc : TypeId × Value → H) :
 ReturnsInHanded {} Tryz.checked os 4 .any (fun w args => (Rows.witnessTellsSpec.pre enc Tryz.prog Tryz.f4 [] false w args ∧ laidMetH Tryz.prog Rows.witnessTellsRow.laid w) ∧ sizedMet enc Tryz.prog Tryz.f4 (OpenSpec.ofChange Rows.witnessTellsSpec) false w args)
  (Rows.witnessTellsSpec.post enc Tryz.prog Tryz.f4 false true false false):=by
 refine handed_laid (C:=Tryz.checked) (X:=fun w _ => laidMet Tryz.prog laidL w) (fun _ _ _ hh h => h.of_heap hh) Tryz.own started (by kernel_rfl) Tryz.func4
  (witness_laid (enc:=enc) os #[.slice none 0 0,.agg #[.int .u8 0,.slice none 0 0,.slice none 0 0,.int .i64 0,.bool false,.int .i64 0,.bool false,.bool false],.slice none 0 0,.agg #[.int .i64 0,.int .i64 0,.int .i64 0,.int .i64 0],.agg #[.int .u8 0,.int .u8 0,.slice none 0 0,.slice none 0 0]] 8 (by kernel_rfl) (by kernel_rfl) (by kernel_rfl) (by kernel_rfl) (by kernel_rfl)) ?_
 intro W base args ds gs before hval0 hW hsz0 hL hsh
 have hsz : (DataW.weightsEach Tryz.prog (Tryz.f4.params.toList ++ Rows.witnessTellsSpec.plain.varTypes Tryz.prog) (ds ++ gs)).all (· ≤ reachBytes) = true:=hsz0
 clear hsz0
 have hval : ∀ (j : Nat) t v,Tryz.f4.params[j]? = some t → args[j]? = some v → Value.okWide Tryz.prog W .any base t v:=hval0
 have hW':=hW
 obtain ⟨p,q,hA0,hV,rfl,hfz,hnd⟩:=hW
 have hA : DataW.TrodAll enc Tryz.prog W 0 (fun _ => true) true Tryz.f4.params.toList args.toList ds p:=hA0
 rw [Tryz.params4] at hA hval hsz
 obtain ⟨v0,v1,v2,v3,v4,d0,d1,d2,d3,d4,p0,p1,p2,p3,p4,rfl,rfl,rfl,h0,h1,h2,h3,h4⟩:=trodAll_five hA
 obtain ⟨rfl,rfl⟩:=trodVars_none hV
 obtain ⟨f1,hf1⟩:=h1
 obtain ⟨f4,hf4⟩:=h4
 obtain ⟨l,hl,hw⟩:=open_names (hval 0 22 v0 rfl rfl) h0
 obtain ⟨c1,e1,_⟩:=okWide_struct Tryz.underlying47 (hval 1 47 v1 rfl rfl)
 obtain ⟨t1,ht1,hb1⟩:=open_tre (f1) (f1) _ _ _ (by omega) (by omega) hf1
 rw [z3h e1] at ht1
 have hc1:=open_cap (f1) _ _ _ (by omega) hf1
 rw [z3h e1] at hc1
 have hbb1:=hb1 (fun n hn => by simpa using List.all_eq_true.1 hsz _ (DataW.weights_mem_each (j:=1) (t:=47) rfl rfl n hn))
 obtain ⟨l2,hl2⟩:=open_segs (hval 2 48 v2 rfl rfl) h2
 obtain ⟨a3,p23,b3,q23,rfl,ia3,ib3⟩:=open_point (hval 3 52 v3 rfl rfl) h3
 obtain ⟨c4,e4,_⟩:=okWide_struct Tryz.underlying56 (hval 4 56 v4 rfl rfl)
 obtain ⟨t4,ht4,hr4⟩:=open_proof (f4) _ _ _ (by omega) hf4
 have hs4:=open_sides (f4) _ _ _ t4 hf4 ht4
 rw [z3h e4] at ht4
 have hw0:=hw (fun n hn => by simpa using List.all_eq_true.1 hsz _ (DataW.weights_mem_each (j:=0) (t:=22) rfl rfl n hn))
 refine (z4z l v0 v2 hw0 t1 v1 l2 a3 p23 b3 q23 t4 v4 W (rdy_of hL hsh) hl ht1 hc1 hl2 ht4 hr4 hs4 ia3 ib3 hbb1).mono fun e W' ⟨he,hb⟩ => ?_
 exact ⟨_,he,law_post Tryz.laidOut (by rw [Tryz.params4]; intro t ht; simp at ht; rcases ht with rfl | rfl | rfl | rfl | rfl <;> exact ⟨by kernel_rfl,of_decide_eq_true (by kernel_rfl)⟩) rfl rfl Tryz.underlying4 hW' rfl hb⟩
theorem z3x : joinedFacts Tryz.checked.prog 4 Tryz.f4 Rows.witnessTellsSpec Rows.witnessTellsRow = true:=by
 unfold joinedFacts
 repeat' (with_reducible refine Bool.and_eq_true_iff.2 ⟨?_,?_⟩)
 all_goals (as_aux_lemma => kernel_rfl)
theorem witnessTells_row : Rows.WitnessTellsSaid :=
 OpenClaim.holds_of_wide 4 Tryz.f4 rfl rfl rfl rfl rfl rfl rfl ⟨rfl,rfl,rfl,rfl,rfl⟩ rfl rfl rfl rfl rfl (by kernel_rfl) Tryz.func4 z3x
  (of_decide_eq_true (by kernel_rfl)) (by unfold Func.isWrapper; first | (rw [if_pos (by decide +kernel)]; kernel_rfl) | (rw [if_neg (by decide +kernel)]; exact ⟨rfl,rfl⟩))
  (fun os started H enc _ => z3w os started H enc)
theorem witnessTells_named : Tryz.prog.funcNamed "rallentando/rallentandolaw28.WitnessTells" = some 4:=by kernel_rfl
theorem z4y : Tryz.prog.wantsStandIn 22 = false:=by kernel_rfl
theorem z4x : Tryz.prog.wantsStandIn 47 = false:=by kernel_rfl
theorem z4w : Tryz.prog.wantsStandIn 48 = false:=by kernel_rfl
theorem z4v : Tryz.prog.wantsStandIn 52 = false:=by kernel_rfl
theorem z4u : Tryz.prog.wantsStandIn 56 = false:=by kernel_rfl
theorem witnessTells_holds : Rows.WitnessTellsCardSaid :=
 Claim7.holds_tied_plain_at .later [] [.data,.data,.data,.sentinel,.sentinel] true (true,"7888cc4b579da9f5c496f8486fec340cc6bb312f1e165db18f84decbf57c7a80") true
  witnessTells_row (fun _ h => by cases h) (by as_aux_lemma => kernel_rfl) (fun _ h => by cases h) witnessTells_row_tie rfl ⟨rfl,rfl⟩ (by as_aux_lemma => kernel_rfl) rfl
  (fun f fn hf hfn => by
   obtain rfl : f = 4:=Option.some.inj (witnessTells_named.symm.trans hf) |>.symm
   obtain rfl : fn = Tryz.f4:=(Option.some.inj (Tryz.func4.symm.trans hfn)).symm
   exact ⟨by as_aux_lemma => kernel_rfl,fun j t ht => by
    rw [Tryz.params4] at ht
    have h3 : t = 22 ∨ t = 47 ∨ t = 48 ∨ t = 52 ∨ t = 56:=by
     rcases j with _ | _ | _ | _ | _ | j
     ·have h4 : t = 22:=by simpa using ht.symm
      simp [h4]
     ·have h4 : t = 47:=by simpa using ht.symm
      simp [h4]
     ·have h4 : t = 48:=by simpa using ht.symm
      simp [h4]
     ·have h4 : t = 52:=by simpa using ht.symm
      simp [h4]
     ·have h4 : t = 56:=by simpa using ht.symm
      simp [h4]
     ·simp at ht
    rcases h3 with rfl | rfl | rfl | rfl | rfl
    ·exact z4y
    ·exact z4x
    ·exact z4w
    ·exact z4v
    ·exact z4u⟩)
  (by as_aux_lemma => kernel_rfl)
#print axioms witnessTells_holds
end Go.Proofs.YtockinpjfhhkoaaGreatDoor
