/- rallentandolaw20.PropApart: a proposition that a formula does not name turns nothing, and the table has what Holds tells: the statement, proved for every input that starts with the library's variables as their text lays them. -/
import Derived.SevenTiedAt
import Derived.Carry
import Derived.Test.YtabpfbgcdmejbaaDoorTie
import Derived.Test.YtabpfbgcdmejbaaDoorCards
import Derived.Test.YtabpfbgcdmejbaaDoorBaseX
import Derived.Test.YtabpfbgcdmejbaaDoorPropM
namespace Go.Proofs.YtabpfbgcdmejbaaDoor
open Go.ChangeShapes Go.WideShapes Go.ChangeAt Go.RowKit Go.Joins

theorem agg_of_cells {v : Value} {cs : Array Value} (h : v = .agg cs) : Value.agg v.cells.toList.toArray = v := by subst h; simp [Value.cells]


set_option maxRecDepth 100000 in
theorem propApart_lifted (os : Os) (started : os.Started) (H : Type) (enc : TypeId × Value → H) :
    ReturnsInHanded {} Tryd.checked os 7 .any (fun w args => (Rows.propApartSpec.pre enc Tryd.prog Tryd.f7 [] false w args ∧ laidMetH Tryd.prog Rows.propApartRow.laid w) ∧ sizedMet enc Tryd.prog Tryd.f7 (OpenSpec.ofChange Rows.propApartSpec) false w args)
      (Rows.propApartSpec.post enc Tryd.prog Tryd.f7 false true false false) := by
  refine handed_laid (C := Tryd.checked) (X := fun w _ => laidMet Tryd.prog laidL w) (fun _ _ _ hh h => h.of_heap hh) Tryd.own started (by kernel_rfl) Tryd.func7
    (witness_laid (enc := enc) os #[.slice none 0 0, .agg #[.int .u8 0, .string ⟨#[]⟩, .slice none 0 0], .int .u8 0, .int .i64 0] 8 (by kernel_rfl) (by kernel_rfl) (by kernel_rfl) (by kernel_rfl) (by kernel_rfl)) ?_
  intro W base args ds gs before hval0 hW hsz0 hL hsh
  have hsz : (DataW.weightsEach Tryd.prog (Tryd.f7.params.toList ++ Rows.propApartSpec.plain.varTypes Tryd.prog) (ds ++ gs)).all (· ≤ reachBytes) = true := hsz0
  clear hsz0
  have hval : ∀ (j : Nat) t v, Tryd.f7.params[j]? = some t → args[j]? = some v → Value.okWide Tryd.prog W .any base t v := hval0
  have hW' := hW
  obtain ⟨p, q, hA0, hV, rfl, hfz, hnd⟩ := hW
  have hA : DataW.TrodAll enc Tryd.prog W 0 (fun _ => true) true Tryd.f7.params.toList args.toList ds p := hA0
  rw [Tryd.params7] at hA hval hsz
  obtain ⟨v0, v1, v2, v3, d0, d1, d2, d3, p0, p1, p2, p3, rfl, rfl, rfl, h0, h1, h2, h3⟩ := trodAll_four hA
  obtain ⟨rfl, rfl⟩ := trodVars_none hV
  obtain ⟨l, hl, hw⟩ := open_names (hval 0 28 v0 rfl rfl) h0
  obtain ⟨c1, e1, _⟩ := okWide_struct Tryd.underlying39 (hval 1 39 v1 rfl rfl)
  obtain ⟨fuel, h1⟩ := h1
  obtain ⟨t, ht, hb⟩ := open_formula fuel fuel _ _ (by omega) h1
  rw [agg_of_cells e1] at ht
  obtain ⟨on, rfl, _, _, hwf⟩ := open_int Tryd.underlying5 (hval 2 5 v2 rfl rfl) h2
  obtain ⟨at_, rfl, _⟩ := open_int Tryd.underlying3 (hval 3 3 v3 rfl rfl) h3
  have hon : 0 ≤ on ∧ on ≤ 255 := by
    have h : (decide ((0 : Int) ≤ on) && decide (on ≤ 255)) = true := hwf
    simpa using h
  have hw0 := hw (fun n hn => by simpa using List.all_eq_true.1 hsz _ (DataW.weights_mem_each (j := 0) (t := 28) rfl rfl n hn))
  refine (propApart7 l v0 _ t v1 on at_ W (rdy_of hL hsh) hl hw0 ht hon.1 hon.2).mono fun e W' ⟨he, hb⟩ => ?_
  exact ⟨_, he, law_post Tryd.laidOut (by rw [Tryd.params7]; intro t ht; simp at ht; rcases ht with rfl | rfl | rfl | rfl <;> exact ⟨by kernel_rfl, of_decide_eq_true (by kernel_rfl)⟩) rfl rfl Tryd.underlying4 hW' rfl hb⟩

theorem propApart_row : Rows.PropApartSaid :=
  OpenClaim.holds_of_wide 7 Tryd.f7 rfl rfl rfl rfl rfl rfl rfl ⟨rfl, rfl, rfl, rfl, rfl⟩ rfl rfl rfl rfl rfl (by kernel_rfl) Tryd.func7 (by kernel_rfl)
    (of_decide_eq_true (by kernel_rfl)) (by unfold Func.isWrapper; first | (rw [if_pos (by decide +kernel)]; kernel_rfl) | (rw [if_neg (by decide +kernel)]; exact ⟨rfl, rfl⟩))
    (fun os started H enc _ => propApart_lifted os started H enc)

theorem propApart_holds : Rows.PropApartCardSaid :=
  Claim7.holds_tied_plain_at .later [] [.data, .data, .data, .sentinel, .sentinel] true (true, "b881aefca7eb405a7a850b42bc9cddb70f0a91c57f48e07b80551a1ab0ee4fbd") true
    propApart_row (fun _ h => by cases h) (by kernel_rfl) (fun _ h => by cases h) propApart_row_tie rfl ⟨rfl, rfl⟩ (by kernel_rfl) rfl
    (fun f fn hf hfn => by
      obtain rfl : f = 7 := Option.some.inj ((show Tryd.prog.funcNamed "rallentando/rallentandolaw20.PropApart" = some 7 by kernel_rfl).symm.trans hf) |>.symm
      obtain rfl : fn = Tryd.f7 := (Option.some.inj (Tryd.func7.symm.trans hfn)).symm
      exact ⟨by kernel_rfl, fun j t ht => by
        rw [Tryd.params7] at ht
        have h3 : t = 3 ∨ t = 5 ∨ t = 28 ∨ t = 39 := by
          rcases j with _ | _ | _ | _ | j
          · have h4 : t = 28 := by simpa using ht.symm
            simp [h4]
          · have h4 : t = 39 := by simpa using ht.symm
            simp [h4]
          · have h4 : t = 5 := by simpa using ht.symm
            simp [h4]
          · have h4 : t = 3 := by simpa using ht.symm
            simp [h4]
          · simp at ht
        rcases h3 with rfl | rfl | rfl | rfl
        · exact (show Tryd.prog.wantsStandIn 3 = false by kernel_rfl)
        · exact (show Tryd.prog.wantsStandIn 5 = false by kernel_rfl)
        · exact (show Tryd.prog.wantsStandIn 28 = false by kernel_rfl)
        · exact (show Tryd.prog.wantsStandIn 39 = false by kernel_rfl)⟩)
    (by kernel_rfl)
#print axioms propApart_holds
end Go.Proofs.YtabpfbgcdmejbaaDoor
