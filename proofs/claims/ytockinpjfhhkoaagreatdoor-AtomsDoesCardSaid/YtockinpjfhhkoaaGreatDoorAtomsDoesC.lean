/- rallentandolaw23.AtomsDoes: since when a formula has held, and its matches, are as is said: the statement, proved for every input that starts with the library's variables as their text lays them. -/
import Derived.SevenTiedAt
import Derived.Test.YtockinpjfhhkoaaGreatDoorTie
import Derived.Test.YtockinpjfhhkoaaGreatDoorCards
import Derived.Test.YtockinpjfhhkoaaGreatDoorAtLi
import Derived.Test.YtockinpjfhhkoaaGreatDoorMiJ
namespace Go.Proofs.YtockinpjfhhkoaaGreatDoor
open Go.ChangeShapes Go.WideShapes Go.ChangeAt Go.RowKit Go.Joins

theorem trodAll_five {H : Type} {enc : TypeId × Value → H} {P : Program} {w : World} {base : Nat} {spare : Nat → Bool} {held : Bool} {t0 t1 t2 t3 t4 : TypeId} {args : Array Value} {ds : List (DataW H)} {ps : List MemPlace} (h : DataW.TrodAll enc P w base spare held [t0, t1, t2, t3, t4] args.toList ds ps) :
    ∃ v0 v1 v2 v3 v4 d0 d1 d2 d3 d4 p0 p1 p2 p3 p4, args = #[v0, v1, v2, v3, v4] ∧ ds = [d0, d1, d2, d3, d4] ∧ ps = p0 ++ p1 ++ p2 ++ p3 ++ p4 ∧ DataW.Trod enc P w base spare held t0 v0 d0 p0 ∧ DataW.Trod enc P w base spare held t1 v1 d1 p1 ∧ DataW.Trod enc P w base spare held t2 v2 d2 p2 ∧ DataW.Trod enc P w base spare held t3 v3 d3 p3 ∧ DataW.Trod enc P w base spare held t4 v4 d4 p4 := by
  obtain ⟨v0, r0, d0, s0, p0, q0, hargs, rfl, rfl, h0, h⟩ := trodAll_cons h
  obtain ⟨v1, r1, d1, s1, p1, q1, rfl, rfl, rfl, h1, h⟩ := trodAll_cons h
  obtain ⟨v2, r2, d2, s2, p2, q2, rfl, rfl, rfl, h2, h⟩ := trodAll_cons h
  obtain ⟨v3, r3, d3, s3, p3, q3, rfl, rfl, rfl, h3, h⟩ := trodAll_cons h
  obtain ⟨v4, r4, d4, s4, p4, q4, rfl, rfl, rfl, h4, h⟩ := trodAll_cons h
  obtain ⟨rfl, rfl, rfl⟩ := trodAll_nil h
  exact ⟨v0, v1, v2, v3, v4, d0, d1, d2, d3, d4, p0, p1, p2, p3, p4, by cases args; simp_all, rfl, by simp, h0, h1, h2, h3, h4⟩

theorem agg_of_cells {v : Value} {cs : Array Value} (h : v = .agg cs) : Value.agg v.cells.toList.toArray = v := by subst h; simp [Value.cells]


set_option maxRecDepth 100000 in
theorem atomsDoes_lifted (os : Os) (started : os.Started) (H : Type) (enc : TypeId × Value → H) :
    ReturnsInHanded {} Tryz.checked os 3 .any (fun w args => (Rows.atomsDoesSpec.pre enc Tryz.prog Tryz.f3 [] false w args ∧ laidMetH Tryz.prog Rows.atomsDoesRow.laid w) ∧ sizedMet enc Tryz.prog Tryz.f3 (OpenSpec.ofChange Rows.atomsDoesSpec) false w args)
      (Rows.atomsDoesSpec.post enc Tryz.prog Tryz.f3 false true false false) := by
  refine handed_laid (C := Tryz.checked) (X := fun w _ => laidMet Tryz.prog laidL w) (fun _ _ _ hh h => h.of_heap hh) Tryz.own started (by kernel_rfl) Tryz.func3
    (witness_laid (enc := enc) os #[.slice none 0 0, .agg #[.int .u8 0, .string ⟨#[]⟩, .slice none 0 0], .agg #[.bool false, .int .i64 0], .int .i64 0, .agg #[.int .i64 0, .int .u8 0]] 8 (by kernel_rfl) (by kernel_rfl) (by kernel_rfl) (by kernel_rfl) (by kernel_rfl)) ?_
  intro W base args ds gs before hval0 hW hsz0 hL hsh
  have hsz : (DataW.weightsEach Tryz.prog (Tryz.f3.params.toList ++ Rows.atomsDoesSpec.plain.varTypes Tryz.prog) (ds ++ gs)).all (· ≤ reachBytes) = true := hsz0
  clear hsz0
  have hval : ∀ (j : Nat) t v, Tryz.f3.params[j]? = some t → args[j]? = some v → Value.okWide Tryz.prog W .any base t v := hval0
  have hW' := hW
  obtain ⟨p, q, hA0, hV, rfl, hfz, hnd⟩ := hW
  have hA : DataW.TrodAll enc Tryz.prog W 0 (fun _ => true) true Tryz.f3.params.toList args.toList ds p := hA0
  rw [Tryz.params3] at hA hval hsz
  obtain ⟨v0, v1, v2, v3, v4, d0, d1, d2, d3, d4, p0, p1, p2, p3, p4, rfl, rfl, rfl, h0, h1, h2, h3, h4⟩ := trodAll_five hA
  obtain ⟨rfl, rfl⟩ := trodVars_none hV
  obtain ⟨l, hl, hw⟩ := open_names (hval 0 22 v0 rfl rfl) h0
  obtain ⟨c1, e1, _⟩ := okWide_struct Tryz.underlying25 (hval 1 25 v1 rfl rfl)
  obtain ⟨fuel, h1⟩ := h1
  obtain ⟨t, ht, hb⟩ := open_formula fuel fuel _ _ (by omega) h1
  rw [agg_of_cells e1] at ht
  obtain ⟨on, since, rfl⟩ := open_run (hval 2 27 v2 rfl rfl) h2
  obtain ⟨at_, rfl, _, _, w3⟩ := open_int (k := .i64) Tryz.underlying3 (hval 3 3 v3 rfl rfl) h3
  obtain ⟨dur, bits, rfl, w4, w5, w6⟩ := open_pc (hval 4 29 v4 rfl rfl) h4
  have hw0 := hw (fun n hn => by simpa using List.all_eq_true.1 hsz _ (DataW.weights_mem_each (j := 0) (t := 22) rfl rfl n hn))
  have hb0 := hb (fun n hn => by simpa using List.all_eq_true.1 hsz _ (DataW.weights_mem_each (j := 1) (t := 25) rfl rfl n hn))
  refine (atomsDoes3_any l v0 hw0 _ t hb0 v1 on since at_ dur bits W w5 w6 (i64_wf w3) w4 (rdy_of hL hsh) hl ht).mono fun e W' ⟨he, hb⟩ => ?_
  exact ⟨_, he, law_post Tryz.laidOut (by rw [Tryz.params3]; intro t ht; simp at ht; rcases ht with rfl | rfl | rfl | rfl | rfl <;> exact ⟨by kernel_rfl, of_decide_eq_true (by kernel_rfl)⟩) rfl rfl Tryz.underlying4 hW' rfl hb⟩

set_option maxRecDepth 100000 in
set_option maxHeartbeats 4000000 in
theorem atomsDoes_closed : joinedFacts Tryz.checked.prog 3 Tryz.f3 Rows.atomsDoesSpec Rows.atomsDoesRow = true := by
  unfold joinedFacts
  repeat' (with_reducible refine Bool.and_eq_true_iff.2 ⟨?_, ?_⟩)
  all_goals (as_aux_lemma => kernel_rfl)

theorem atomsDoes_row : Rows.AtomsDoesSaid :=
  OpenClaim.holds_of_wide 3 Tryz.f3 rfl rfl rfl rfl rfl rfl rfl ⟨rfl, rfl, rfl, rfl, rfl⟩ rfl rfl rfl rfl rfl (by kernel_rfl) Tryz.func3 atomsDoes_closed
    (of_decide_eq_true (by kernel_rfl)) (by unfold Func.isWrapper; first | (rw [if_pos (by decide +kernel)]; kernel_rfl) | (rw [if_neg (by decide +kernel)]; exact ⟨rfl, rfl⟩))
    (fun os started H enc _ => atomsDoes_lifted os started H enc)

theorem atomsDoes_holds : Rows.AtomsDoesCardSaid :=
  Claim7.holds_tied_plain_at .later [] [.data, .data, .data, .sentinel, .sentinel] true (true, "7888cc4b579da9f5c496f8486fec340cc6bb312f1e165db18f84decbf57c7a80") true
    atomsDoes_row (fun _ h => by cases h) (by kernel_rfl) (fun _ h => by cases h) atomsDoes_row_tie rfl ⟨rfl, rfl⟩ (by kernel_rfl) rfl
    (fun f fn hf hfn => by
      obtain rfl : f = 3 := Option.some.inj ((show Tryz.prog.funcNamed "rallentando/rallentandolaw23.AtomsDoes" = some 3 by kernel_rfl).symm.trans hf) |>.symm
      obtain rfl : fn = Tryz.f3 := (Option.some.inj (Tryz.func3.symm.trans hfn)).symm
      exact ⟨by kernel_rfl, fun j t ht => by
        rw [Tryz.params3] at ht
        have h3 : t = 3 ∨ t = 22 ∨ t = 25 ∨ t = 27 ∨ t = 29 := by
          rcases j with _ | _ | _ | _ | _ | j
          · have h4 : t = 22 := by simpa using ht.symm
            simp [h4]
          · have h4 : t = 25 := by simpa using ht.symm
            simp [h4]
          · have h4 : t = 27 := by simpa using ht.symm
            simp [h4]
          · have h4 : t = 3 := by simpa using ht.symm
            simp [h4]
          · have h4 : t = 29 := by simpa using ht.symm
            simp [h4]
          · simp at ht
        rcases h3 with rfl | rfl | rfl | rfl | rfl
        · exact (show Tryz.prog.wantsStandIn 3 = false by kernel_rfl)
        · exact (show Tryz.prog.wantsStandIn 22 = false by kernel_rfl)
        · exact (show Tryz.prog.wantsStandIn 25 = false by kernel_rfl)
        · exact (show Tryz.prog.wantsStandIn 27 = false by kernel_rfl)
        · exact (show Tryz.prog.wantsStandIn 29 = false by kernel_rfl)⟩)
    (by kernel_rfl)
#print axioms atomsDoes_holds
end Go.Proofs.YtockinpjfhhkoaaGreatDoor
