/- rallentandolaw20.PropMorgan: not, and, or are each other's: the statement, proved for every input that starts with the library's variables as their text lays them. -/
import Derived.SevenTiedAt
import Derived.Test.YtabpfbgcdmejbaaDoorTie
import Derived.Test.YtabpfbgcdmejbaaDoorCards
import Derived.Test.YtabpfbgcdmejbaaDoorBaseX
import Derived.Test.YtabpfbgcdmejbaaDoorPropJ
namespace Go.Proofs.YtabpfbgcdmejbaaDoor
open Go.ChangeShapes Go.WideShapes Go.ChangeAt Go.RowKit Go.Joins

theorem agg_of_cells {v : Value} {cs : Array Value} (h : v = .agg cs) : Value.agg v.cells.toList.toArray = v := by subst h; simp [Value.cells]


set_option maxRecDepth 100000 in
theorem propMorgan_lifted (os : Os) (started : os.Started) (H : Type) (enc : TypeId × Value → H) :
    ReturnsInHanded {} Tryd.checked os 8 .any (fun w args => (Rows.propMorganSpec.pre enc Tryd.prog Tryd.f8 [] false w args ∧ laidMetH Tryd.prog Rows.propMorganRow.laid w) ∧ sizedMet enc Tryd.prog Tryd.f8 (OpenSpec.ofChange Rows.propMorganSpec) false w args)
      (Rows.propMorganSpec.post enc Tryd.prog Tryd.f8 false true false false) := by
  refine handed_laid (C := Tryd.checked) (X := fun w _ => laidMet Tryd.prog laidL w) (fun _ _ _ hh h => h.of_heap hh) Tryd.own started (by kernel_rfl) Tryd.func8
    (witness_laid (enc := enc) os #[.slice none 0 0, .agg #[.int .u8 0, .string ⟨#[]⟩, .slice none 0 0], .agg #[.int .u8 0, .string ⟨#[]⟩, .slice none 0 0]] 8 (by kernel_rfl) (by kernel_rfl) (by kernel_rfl) (by kernel_rfl) (by kernel_rfl)) ?_
  intro W base args ds gs before hval0 hW hsz0 hL hsh
  have hsz : (DataW.weightsEach Tryd.prog (Tryd.f8.params.toList ++ Rows.propMorganSpec.plain.varTypes Tryd.prog) (ds ++ gs)).all (· ≤ reachBytes) = true := hsz0
  clear hsz0
  have hval : ∀ (j : Nat) t v, Tryd.f8.params[j]? = some t → args[j]? = some v → Value.okWide Tryd.prog W .any base t v := hval0
  have hW' := hW
  obtain ⟨p, q, hA0, hV, rfl, hfz, hnd⟩ := hW
  have hA : DataW.TrodAll enc Tryd.prog W 0 (fun _ => true) true Tryd.f8.params.toList args.toList ds p := hA0
  rw [Tryd.params8] at hA hval hsz
  obtain ⟨v0, v1, v2, d0, d1, d2, p0, p1, p2, rfl, rfl, rfl, h0, h1, h2⟩ := trodAll_three hA
  obtain ⟨rfl, rfl⟩ := trodVars_none hV
  obtain ⟨l, hl, hw⟩ := open_names (hval 0 28 v0 rfl rfl) h0
  obtain ⟨c1, e1, _⟩ := okWide_struct Tryd.underlying39 (hval 1 39 v1 rfl rfl)
  obtain ⟨c2, e2, _⟩ := okWide_struct Tryd.underlying39 (hval 2 39 v2 rfl rfl)
  obtain ⟨fuel1, h1⟩ := h1
  obtain ⟨fuel2, h2⟩ := h2
  obtain ⟨t1, ht1, _⟩ := open_formula (fuel1 + fuel2) fuel1 _ _ (by omega) h1
  obtain ⟨t2, ht2, _⟩ := open_formula (fuel1 + fuel2) fuel2 _ _ (by omega) h2
  rw [agg_of_cells e1] at ht1
  rw [agg_of_cells e2] at ht2
  have hw0 := hw (fun n hn => by simpa using List.all_eq_true.1 hsz _ (DataW.weights_mem_each (j := 0) (t := 28) rfl rfl n hn))
  refine (propMorgan8 l v0 _ t1 t2 v1 v2 W (rdy_of hL hsh) hl hw0 ht1 ht2).mono fun e W' ⟨he, hb⟩ => ?_
  exact ⟨_, he, law_post Tryd.laidOut (by rw [Tryd.params8]; intro t ht; simp at ht; rcases ht with rfl | rfl <;> exact ⟨by kernel_rfl, of_decide_eq_true (by kernel_rfl)⟩) rfl rfl Tryd.underlying4 hW' rfl hb⟩

theorem propMorgan_row : Rows.PropMorganSaid :=
  OpenClaim.holds_of_wide 8 Tryd.f8 rfl rfl rfl rfl rfl rfl rfl ⟨rfl, rfl, rfl, rfl, rfl⟩ rfl rfl rfl rfl rfl (by kernel_rfl) Tryd.func8 (by kernel_rfl)
    (of_decide_eq_true (by kernel_rfl)) (by unfold Func.isWrapper; first | (rw [if_pos (by decide +kernel)]; kernel_rfl) | (rw [if_neg (by decide +kernel)]; exact ⟨rfl, rfl⟩))
    (fun os started H enc _ => propMorgan_lifted os started H enc)

theorem propMorgan_holds : Rows.PropMorganCardSaid :=
  Claim7.holds_tied_plain_at .later [] [.data, .data, .data, .sentinel, .sentinel] true (true, "b881aefca7eb405a7a850b42bc9cddb70f0a91c57f48e07b80551a1ab0ee4fbd") true
    propMorgan_row (fun _ h => by cases h) (by kernel_rfl) (fun _ h => by cases h) propMorgan_row_tie rfl ⟨rfl, rfl⟩ (by kernel_rfl) rfl
    (fun f fn hf hfn => by
      obtain rfl : f = 8 := Option.some.inj ((show Tryd.prog.funcNamed "rallentando/rallentandolaw20.PropMorgan" = some 8 by kernel_rfl).symm.trans hf) |>.symm
      obtain rfl : fn = Tryd.f8 := (Option.some.inj (Tryd.func8.symm.trans hfn)).symm
      exact ⟨by kernel_rfl, fun j t ht => by
        rw [Tryd.params8] at ht
        have h3 : t = 28 ∨ t = 39 := by
          rcases j with _ | _ | _ | j
          · have h4 : t = 28 := by simpa using ht.symm
            simp [h4]
          · have h4 : t = 39 := by simpa using ht.symm
            simp [h4]
          · have h4 : t = 39 := by simpa using ht.symm
            simp [h4]
          · simp at ht
        rcases h3 with rfl | rfl
        · exact (show Tryd.prog.wantsStandIn 28 = false by kernel_rfl)
        · exact (show Tryd.prog.wantsStandIn 39 = false by kernel_rfl)⟩)
    (by kernel_rfl)
#print axioms propMorgan_holds
end Go.Proofs.YtabpfbgcdmejbaaDoor
