/- rallentandolaw19.NormOwn: a normal form is its own, and may be: the statement, proved for every input that starts with the library's variables as their text lays them. -/
import Derived.SevenTiedAt
import Derived.Test.YtpgdplmndnopbaaGreatDoorTie
import Derived.Test.YtpgdplmndnopbaaGreatDoorCards
import Derived.Test.YtpgdplmndnopbaaGreatDoorMgO
import Derived.Test.YtpgdplmndnopbaaGreatDoorNoB
namespace Go.Proofs.YtpgdplmndnopbaaGreatDoor
open Go.ChangeShapes Go.WideShapes Go.ChangeAt Go.RowKit Go.Joins

theorem agg_of_cells {v : Value} {cs : Array Value} (h : v = .agg cs) : Value.agg v.cells.toList.toArray = v := by subst h; simp [Value.cells]


set_option maxRecDepth 100000 in
theorem normOwn_lifted (os : Os) (started : os.Started) (H : Type) (enc : TypeId × Value → H) :
    ReturnsInHanded {} Tryz.checked os 14 .any (fun w args => (Rows.normOwnSpec.pre enc Tryz.prog Tryz.f14 [] false w args ∧ laidMetH Tryz.prog Rows.normOwnRow.laid w) ∧ sizedMet enc Tryz.prog Tryz.f14 (OpenSpec.ofChange Rows.normOwnSpec) false w args)
      (Rows.normOwnSpec.post enc Tryz.prog Tryz.f14 false true false false) := by
  refine handed_laid (C := Tryz.checked) (X := fun w _ => laidMet Tryz.prog laidL w) (fun _ _ _ hh h => h.of_heap hh) Tryz.own started (by kernel_rfl) Tryz.func14
    (witness_laid (enc := enc) os #[.slice none 0 0, .agg #[.int .u8 0, .slice none 0 0, .slice none 0 0, .int .i64 0, .bool false, .int .i64 0, .bool false, .bool false]] 8 (by kernel_rfl) (by kernel_rfl) (by kernel_rfl) (by kernel_rfl) (by kernel_rfl)) ?_
  intro W base args ds gs before hval0 hW hsz0 hL hsh
  have hsz : (DataW.weightsEach Tryz.prog (Tryz.f14.params.toList ++ Rows.normOwnSpec.plain.varTypes Tryz.prog) (ds ++ gs)).all (· ≤ reachBytes) = true := hsz0
  clear hsz0
  have hval : ∀ (j : Nat) t v, Tryz.f14.params[j]? = some t → args[j]? = some v → Value.okWide Tryz.prog W .any base t v := hval0
  have hW' := hW
  obtain ⟨p, q, hA0, hV, rfl, hfz, hnd⟩ := hW
  have hA : DataW.TrodAll enc Tryz.prog W 0 (fun _ => true) true Tryz.f14.params.toList args.toList ds p := hA0
  rw [Tryz.params14] at hA hval hsz
  obtain ⟨v0, v1, d0, d1, p0, p1, rfl, rfl, rfl, h0, h1⟩ := trodAll_two hA
  obtain ⟨rfl, rfl⟩ := trodVars_none hV
  obtain ⟨l, hl, hw⟩ := open_names (hval 0 22 v0 rfl rfl) h0
  obtain ⟨c1, e1, _⟩ := okWide_struct Tryz.underlying28 (hval 1 28 v1 rfl rfl)
  obtain ⟨fuel, h1⟩ := h1
  obtain ⟨t, ht, hb⟩ := open_tre fuel fuel _ _ _ (by omega) (by omega) h1
  rw [agg_of_cells e1] at ht
  have hw0 := hw (fun n hn => by simpa using List.all_eq_true.1 hsz _ (DataW.weights_mem_each (j := 0) (t := 22) rfl rfl n hn))
  have hb0 := hb (fun n hn => by simpa using List.all_eq_true.1 hsz _ (DataW.weights_mem_each (j := 1) (t := 28) rfl rfl n hn))
  refine (normOwn14_any l v0 _ _ t v1 W (rdy_of hL hsh) hl hw0 ht hb0).mono fun e W' ⟨he, hb⟩ => ?_
  exact ⟨_, he, law_post Tryz.laidOut (by rw [Tryz.params14]; intro t ht; simp at ht; rcases ht with rfl | rfl <;> exact ⟨by kernel_rfl, of_decide_eq_true (by kernel_rfl)⟩) rfl rfl Tryz.underlying4 hW' rfl hb⟩

set_option maxRecDepth 100000 in
set_option maxHeartbeats 4000000 in
theorem normOwn_closed : joinedFacts Tryz.checked.prog 14 Tryz.f14 Rows.normOwnSpec Rows.normOwnRow = true := by
  unfold joinedFacts
  repeat' (with_reducible refine Bool.and_eq_true_iff.2 ⟨?_, ?_⟩)
  all_goals (as_aux_lemma => kernel_rfl)

theorem normOwn_row : Rows.NormOwnSaid :=
  OpenClaim.holds_of_wide 14 Tryz.f14 rfl rfl rfl rfl rfl rfl rfl ⟨rfl, rfl, rfl, rfl, rfl⟩ rfl rfl rfl rfl rfl (by kernel_rfl) Tryz.func14 normOwn_closed
    (of_decide_eq_true (by kernel_rfl)) (by unfold Func.isWrapper; first | (rw [if_pos (by decide +kernel)]; kernel_rfl) | (rw [if_neg (by decide +kernel)]; exact ⟨rfl, rfl⟩))
    (fun os started H enc _ => normOwn_lifted os started H enc)

theorem normOwn_holds : Rows.NormOwnCardSaid :=
  Claim7.holds_tied_plain_at .later [] [.data, .data, .data, .sentinel, .sentinel] true (true, "bdefdae1d616984e7403d1809cc61553b7e66fcd037517899fc6dcc5cc684d40") true
    normOwn_row (fun _ h => by cases h) (by kernel_rfl) (fun _ h => by cases h) normOwn_row_tie rfl ⟨rfl, rfl⟩ (by kernel_rfl) rfl
    (fun f fn hf hfn => by
      obtain rfl : f = 14 := Option.some.inj ((show Tryz.prog.funcNamed "rallentando/rallentandolaw19.NormOwn" = some 14 by kernel_rfl).symm.trans hf) |>.symm
      obtain rfl : fn = Tryz.f14 := (Option.some.inj (Tryz.func14.symm.trans hfn)).symm
      exact ⟨by kernel_rfl, fun j t ht => by
        rw [Tryz.params14] at ht
        have h3 : t = 22 ∨ t = 28 := by
          rcases j with _ | _ | j
          · have h4 : t = 22 := by simpa using ht.symm
            simp [h4]
          · have h4 : t = 28 := by simpa using ht.symm
            simp [h4]
          · simp at ht
        rcases h3 with rfl | rfl
        · exact (show Tryz.prog.wantsStandIn 22 = false by kernel_rfl)
        · exact (show Tryz.prog.wantsStandIn 28 = false by kernel_rfl)⟩)
    (by kernel_rfl)
#print axioms normOwn_holds
end Go.Proofs.YtpgdplmndnopbaaGreatDoor
