/- lex.Glue. -/
import Derived.Test.YtipbgaiaoahnmaaDoorLexT
import Derived.Test.YtipbgaiaoahnmaaDoorLexUa
namespace Go.Proofs.YtipbgaiaoahnmaaDoor
open Go.RowKit Go.Shelf
attribute [local go_sem ↓] Go.wp_at_zero Go.wp_at_succ

theorem cell3 {W : World} {g : Nat} {a b c : Value} {t : TypeId} (h : W.heap[g]? = some (.cells #[a, b, c] t (0, 0))) : W.cell? ⟨g, 0, none⟩ = some a ∧ W.cell? ⟨g, 1, none⟩ = some b ∧ W.cell? ⟨g, 2, none⟩ = some c :=
  ⟨Lib.cell_of_heap h 0, Lib.cell_of_heap h 1, Lib.cell_of_heap h 2⟩
theorem kept3 {W W' : World} {g bb : Nat} {cs : Array Value} (h : W.heap[g]? = some (.cells cs 27 (0, 0))) (hk : Lib.OthersKept 5 (some bb) W W') (hne : g ≠ bb) : W'.heap[g]? = some (.cells cs 27 (0, 0)) :=
  hk g _ h (fun e => hne (Option.some.inj e)) (fun c fz e => by cases e)
theorem builderF_below {T e : TypeId} {B b : Nat} {bs : List Value} {W W' : World} (h : Lib.IsBuilderF T e B b bs W) (hb : Below W.heap.size W W') : Lib.IsBuilderF T e B b bs W' := Go.Proofs.Lib.IsBuilderF.below' h hb
theorem nearB_both {a b : Tok} (ha : mayT a = true) (hb : mayT b = true) : nearB a b = (apart a.text.data.toList b.text.data.toList, 0) := by
  have h1 : mayB a.kind a.text.data.toList a.place = true := ha
  have h2 : mayB b.kind b.text.data.toList b.place = true := hb
  simp [nearB, h1, h2]

set_option maxRecDepth 100000 in
set_option maxHeartbeats 4000000 in
theorem glue14_any (v : Value) (l : List Tok) (w : World) (hr : Rdy w) (hs : Toks w w.heap.size v l) (hg : sumT l l.length ≤ 20000) :
    Calls Tryd.prog 14 #[v] w fun e w' => e = .returned (.tuple #[.string (bsOf (glueP l).1), .int .i64 (glueP l).2]) ∧ Below w.heap.size w w' := by
  obtain ⟨a, cap, rfl, hm, h⟩ := hs
  have hln : l.length ≤ 20000 := by have := sumT_mono l 0 l.length; simp only [Nat.zero_add] at this; have h0 : sumT l 0 = l.length := (by simp [sumT]); omega
  have HR := Lib.hid hr
  have HMAY := Lib.hid (fun (t : Tok) W hW => may25_any t.kind t.place t.text W hW)
  have HNEAR := Lib.hid (fun (t u : Tok) W hW => near10_any t u W hW)
  clear hr
  go_enter Tryd.func14, Tryd.ntmps14
  go_wp2_with fail
  go_loopw [11] (fun i wr => ∃ (k : Nat), k ≤ l.length ∧ i = .int .i64 k ∧ w.heap.size < wr.heap.size ∧ Hid (Below w.heap.size w wr ∧ Lib.IsBuilderF 57 5 w.heap.size w.heap.size (Lib.byteCells (glue (textsOf (l.take k)))) wr ∧
    (k = 0 → wr.heap[w.heap.size]? = some (.cells #[.pointer none, .slice none 0 0] 57 (0, 0))) ∧ (l.take k).all mayT = true)) (fun i _ => l.length - (intOf i).toNat)
  case atStart =>
    refine ⟨0, by omega, rfl, by simp, (Below.refl _ w).alloc (Nat.le_refl _) _, Lib.IsBuilderF.of (Lib.fresh_isBuilder 57 5 w), fun _ => Array.getElem?_push_size, rfl⟩
  case round =>
    obtain ⟨k, hk, rfl, hsz, HI⟩ := hrel
    by_cases hlt : k < l.length
    · rcases h with h | ⟨b, off, rfl, hbl, hc⟩
      · rw [h] at hlt; exact absurd hlt (by simp)
      have hcr := hc.below HI.out.1 hbl
      obtain ⟨c1, c2, c3⟩ := hcr k hlt
      have HX : Hid (∀ W, Below w.heap.size w W → TokC W b off l) := fun W hW => hc.below hW hbl
      have HT : Hid ((l.take (k + 1)).all mayT = ((l.take k).all mayT && mayT l[k])) := by rw [Hid, List.take_succ_eq_append_getElem hlt]; simp only [List.all_append, List.all_cons, List.all_nil, Bool.and_true]
      have HA : Hid (mayT l[k] = false → l.all mayT = false) := fun h => by
        rw [Bool.eq_false_iff]; intro h2
        rw [List.all_eq_true] at h2
        rw [h2 _ (List.getElem_mem hlt)] at h; cases h
      have HG := Lib.hid (glue_take l k hlt)
      have HZ := Lib.hid (glue_take_len l k hk hg)
      have hz := text_len l k hlt hg
      generalize l[k] = t at c1 c2 c3 HT HA HG hz
      obtain ⟨tk, tt, tp⟩ := t
      dsimp only at c1 c2 c3 HG hz
      have HM := Lib.hid (fun W hW => HMAY.out ⟨tk, tt, tp⟩ W hW)
      dsimp only at HM
      have HMT : Hid (mayT ⟨tk, tt, tp⟩ = mayB tk tt.data.toList tp) := rfl
      have HW1 : Hid (∀ w1 : World, Below (wr.alloc (.cells #[.int .u8 tk, .string tt, .int .i64 tp] 27)).heap.size (wr.alloc (.cells #[.int .u8 tk, .string tt, .int .i64 tp] 27)) w1 →
          w1.heap[wr.heap.size]? = some (.cells #[.int .u8 tk, .string tt, .int .i64 tp] 27 (0, 0)) ∧ Below w.heap.size w w1 ∧ Lib.IsBuilderF 57 5 w.heap.size w.heap.size (Lib.byteCells (glue (textsOf (l.take k)))) w1 ∧
          (k = 0 → w1.heap[w.heap.size]? = some (.cells #[.pointer none, .slice none 0 0] 57 (0, 0))) ∧ Rdy w1 ∧ w.heap.size < w1.heap.size ∧ wr.heap.size < w1.heap.size) := by
        intro w1 hb1
        have hz1 : (wr.alloc (.cells #[.int .u8 tk, .string tt, .int .i64 tp] 27)).heap.size = wr.heap.size + 1 := by simp
        have hB1 : Below wr.heap.size wr w1 := ((Below.refl _ wr).alloc (Nat.le_refl _) _).trans (hb1.mono (by omega))
        have hlt1 : wr.heap.size < w1.heap.size := Nat.lt_of_lt_of_le (by omega) hb1.size
        have hBw : Below w.heap.size w w1 := HI.out.1.trans (hB1.mono (Nat.le_of_lt hsz))
        refine ⟨?_, hBw, builderF_below HI.out.2.1 hB1, fun h0 => ?_, HR.out.below hBw, by omega, hlt1⟩
        · rw [hb1.block wr.heap.size (by omega)]; exact Array.getElem?_push_size
        · rw [hB1.block w.heap.size hsz]; exact HI.out.2.2.1 h0
      have HR1 : Hid (Rdy (wr.alloc (.cells #[.int .u8 tk, .string tt, .int .i64 tp] 27))) := HR.out.below (HI.out.1.alloc HI.out.1.size _)
      have hne : wr.heap.size ≠ w.heap.size := by omega
      clear hc hcr
      have hbr : b < wr.heap.size := by omega
      cases hmt : mayB tk tt.data.toList tp with
      | false =>
        have HE : Hid (glueP l = ([], 8)) := by rw [Hid, glueP, HA.out (by rw [HMT.out, hmt])]; rfl
        have HMF := Lib.hid hmt
        clear hmt
        go_wp2_with fail
        refine (HM.out _ HR1.out).mono ?_
        rintro e w1 ⟨rfl, hb1⟩
        rw [HMF.out]
        have HB1 := Lib.hid (HW1.out w1 hb1)
        go_wp2_with fail
        go_ret2
        exact ⟨by rw [HE.out]; rfl, HB1.out.2.1⟩
      | true =>
        have HMF := Lib.hid hmt
        clear hmt
        have HALL : Hid ((l.take (k + 1)).all mayT = true) := by rw [Hid, HT.out, HI.out.2.2.2, HMT.out, HMF.out]; rfl
        rcases k with _ | k
        · simp only [Nat.zero_mul, Nat.add_zero] at c1 c2 c3
          have HGR : Hid (∀ w1 : World, Below (wr.alloc (.cells #[.int .u8 tk, .string tt, .int .i64 tp] 27)).heap.size (wr.alloc (.cells #[.int .u8 tk, .string tt, .int .i64 tp] 27)) w1 →
            Calls Tryd.prog 26 #[.pointer (some ⟨w.heap.size, 0, none⟩), .int .i64 (min (l.length : Int) 32767)] w1 fun e w' => e = .returned (.tuple #[]) ∧ (Lib.BuilderAtF 57 5 w.heap.size w.heap.size (.pointer (some ⟨w.heap.size, 0, none⟩)) [] w' ∧ Below w.heap.size w1 w' ∧ Lib.OthersKept 5 (some w.heap.size) w1 w')) :=
              fun w1 hb1 => by
                have h1 := Tryd.Builder_Grow_k w.heap.size (min l.length 32767) w1 ((HW1.out w1 hb1).2.2.2.1 rfl) (by omega)
                rw [show ((min l.length 32767 : Nat) : Int) = min (l.length : Int) 32767 by omega] at h1
                exact h1
          go_wp2_with fail
          refine (HM.out _ HR1.out).mono ?_
          rintro e w1 ⟨rfl, hb1⟩
          rw [HMF.out]
          have HB1 := Lib.hid hb1
          clear hb1 c1 c2 c3
          go_wp2_with fail
          refine (HGR.out w1 HB1.out).mono ?_
          rintro e w2 ⟨rfl, hbd2, hb2, hok2⟩
          have HBD2 := Lib.hid hbd2
          have HB2 := Lib.hid ((HW1.out w1 HB1.out).2.1.trans hb2)
          have hk2 := kept3 (HW1.out w1 HB1.out).1 hok2 hne
          obtain ⟨_, e1, _⟩ := cell3 hk2
          have hsz2 : w.heap.size < w2.heap.size := HBD2.out.lt
          have HWS : Hid (Calls Tryd.prog 28 #[.pointer (some ⟨w.heap.size, 0, none⟩), .string tt] w2 fun e w' => e = .returned (.tuple #[.int .i64 tt.size, .nilIface]) ∧ (Lib.BuilderAtF 57 5 w.heap.size w.heap.size (.pointer (some ⟨w.heap.size, 0, none⟩)) ([] ++ Lib.strCells tt) w' ∧ Below w.heap.size w2 w' ∧ Lib.OthersKept 5 (some w.heap.size) w2 w')) :=
            Tryd.Builder_WriteString_k w.heap.size w.heap.size [] tt w2 (.inr HBD2.out) (by simp; omega) (by omega)
          clear hbd2 hb2 hok2 hk2
          go_wp2_with fail
          refine HWS.out.mono ?_
          rintro e w3 ⟨rfl, hbd3, hb3, hok3⟩
          have HEND : Hid (Lib.IsBuilderF 57 5 w.heap.size w.heap.size (Lib.byteCells (glue (textsOf (l.take 1)))) w3) := by
            have h1 : glue (textsOf (l.take 1)) = tt.data.toList := by
              rw [show (1 : Nat) = 0 + 1 from rfl, HG.out]
              have : apart (lastOf [] (textsOf (l.take 0))) tt.data.toList = true := by cases tt.data.toList <;> rfl
              rw [this, if_pos rfl]; rfl
            rw [Hid, h1, ← Lib.strCells_eq]
            exact .inr (by simpa using hbd3)
          have HB3 := Lib.hid (HB2.out.trans hb3)
          have hsz3 : w.heap.size < w3.heap.size := hbd3.lt
          clear hbd3 hb3 hok3 e1
          go_wp2_with fail
          refine ⟨⟨1, by omega, rfl, hsz3, HB3.out, HEND.out, fun h => by omega, HALL.out⟩, by simp [intOf]; omega⟩
        · have hltk : k < l.length := by omega
          have HNR : Hid (mayT l[k] = true) := by
            have h2 := HI.out.2.2.2
            rw [List.all_eq_true] at h2
            exact h2 _ (by rw [List.mem_take_iff_getElem]; exact ⟨k, by omega, rfl⟩)
          have HLO := Lib.hid (lastOf_take l k hltk)
          have HPC : Hid (∀ W, Below w.heap.size w W → W.cell? ⟨b, off + k * 3, none⟩ = some (.int .u8 l[k].kind) ∧ W.cell? ⟨b, off + k * 3 + 1, none⟩ = some (.string l[k].text) ∧ W.cell? ⟨b, off + k * 3 + 2, none⟩ = some (.int .i64 l[k].place)) := fun W hW => HX.out W hW k hltk
          generalize l[k] = u at HNR HLO HPC
          obtain ⟨uk, ut, up⟩ := u
          dsimp only at HLO HPC
          have HNB := Lib.hid (nearB_both HNR.out (show mayT ⟨tk, tt, tp⟩ = true from HMF.out))
          have HNC : Hid (∀ W, Rdy W → Calls Tryd.prog 10 #[.agg #[.int .u8 uk, .string ut, .int .i64 up], .agg #[.int .u8 tk, .string tt, .int .i64 tp]] W fun e w' => e = .returned (.tuple #[.bool (apart ut.data.toList tt.data.toList), .int .i64 0]) ∧ Below W.heap.size W w') := fun W hW => by
            have h1 := HNEAR.out ⟨uk, ut, up⟩ ⟨tk, tt, tp⟩ W hW
            rw [HNB.out] at h1
            exact h1
          have hw1 : IntKind.i64.wrap ((k : Int) + 1 - 1) = (k : Int) := by rw [IntWalk.i64_in _ (by omega)]; omega
          have hw2 : IntKind.i64.wrap (k : Int) = (k : Int) := IntWalk.i64_in _ (by omega)
          have hk0 : (0 : Int) ≤ (k : Int) := by omega
          have hk1 : (k : Int) < (l.length : Int) := by omega
          have hkn : ((k : Int) + 1 == 0) = false := by simp; omega
          cases hap : apart ut.data.toList tt.data.toList with
          | true =>
            have HAP := Lib.hid hap
            clear hap
            go_wp2_with fail
            refine (HM.out _ HR1.out).mono ?_
            rintro e w1 ⟨rfl, hb1⟩
            rw [HMF.out]
            have HB1 := Lib.hid (HW1.out w1 hb1)
            clear hb1 c1 c2 c3
            obtain ⟨e0, e1, e2⟩ := cell3 HB1.out.1
            obtain ⟨p0, p1, p2⟩ := HPC.out w1 HB1.out.2.1
            have hszr : wr.heap.size < w1.heap.size := HB1.out.2.2.2.2.2.2
            have hbw1 : b < w1.heap.size := by omega
            go_wp2_with fail
            go_cut [7, 8] from 25 to 35 (fun nv ev wx => nv = .bool (apart ut.data.toList tt.data.toList) ∧ Below w1.heap.size w1 wx)
            case first =>
              go_region_law (first | (go_simp; go_at_call 10; refine (HNC.out w1.drew (show Rdy w1.drew from HB1.out.2.2.2.2.1)).mono ?_; rintro e w2 ⟨rfl, hb2⟩))
              all_goals (
                go_wp2_with fail
                go_meet
                exact ⟨rfl, ((Below.refl w1.heap.size w1).drew).trans hb2⟩)
            case rest =>
            obtain ⟨rfl, hb2'⟩ := hcut
            obtain ⟨w2, hw2⟩ : ∃ w2, w2 = wc := ⟨_, rfl⟩
            subst hw2
            rw [HAP.out]
            have HB2 := Lib.hid (HB1.out.2.1.trans (hb2'.mono (Nat.le_of_lt HB1.out.2.2.2.2.2.1)))
            have HBD2 := Lib.hid (builderF_below HB1.out.2.2.1 hb2')
            have hk2 : w2.heap[wr.heap.size]? = some (.cells #[.int .u8 tk, .string tt, .int .i64 tp] 27 (0, 0)) := by rw [hb2'.block _ hszr]; exact HB1.out.1
            have hsz2 : w.heap.size < w2.heap.size := Nat.lt_of_lt_of_le HB1.out.2.2.2.2.2.1 hb2'.size
            obtain ⟨_, g1, _⟩ := cell3 hk2
            have HWS : Hid (Calls Tryd.prog 28 #[.pointer (some ⟨w.heap.size, 0, none⟩), .string tt] w2 fun e w' => e = .returned (.tuple #[.int .i64 tt.size, .nilIface]) ∧ (Lib.BuilderAtF 57 5 w.heap.size w.heap.size (.pointer (some ⟨w.heap.size, 0, none⟩)) (Lib.byteCells (glue (textsOf (l.take (k + 1)))) ++ Lib.strCells tt) w' ∧ Below w.heap.size w2 w' ∧ Lib.OthersKept 5 (some w.heap.size) w2 w')) :=
              Tryd.Builder_WriteString_k w.heap.size w.heap.size _ tt w2 HBD2.out (by rw [Lib.byteCells_length]; have := HZ.out; omega) (by omega)
            clear hk2 hb2' e0 e1 e2 p0 p1 p2 hbw1
            go_wp2_with fail
            refine HWS.out.mono ?_
            rintro e w3 ⟨rfl, hbd3, hb3, hok3⟩
            have HEND : Hid (Lib.IsBuilderF 57 5 w.heap.size w.heap.size (Lib.byteCells (glue (textsOf (l.take (k + 1 + 1))))) w3) := by
              have h1 : glue (textsOf (l.take (k + 1 + 1))) = glue (textsOf (l.take (k + 1))) ++ tt.data.toList := by
                rw [HG.out, HLO.out, HAP.out, if_pos rfl]
              rw [Hid, h1, Lib.byteCells_append, ← Lib.strCells_eq]
              exact .inr hbd3
            have HB3 := Lib.hid (HB2.out.trans hb3)
            have hsz3 : w.heap.size < w3.heap.size := hbd3.lt
            clear hbd3 hb3 hok3 g1
            go_wp2_with fail
            go_roundw
            case rel => exact ⟨k + 1 + 1, by omega, by push_cast; rfl, hsz3, HB3.out, HEND.out, fun h => by omega, HALL.out⟩
            case measure => simp [intOf]; omega
          | false =>
            have HAP := Lib.hid hap
            clear hap
            go_wp2_with fail
            refine (HM.out _ HR1.out).mono ?_
            rintro e w1 ⟨rfl, hb1⟩
            rw [HMF.out]
            have HB1 := Lib.hid (HW1.out w1 hb1)
            clear hb1 c1 c2 c3
            obtain ⟨e0, e1, e2⟩ := cell3 HB1.out.1
            obtain ⟨p0, p1, p2⟩ := HPC.out w1 HB1.out.2.1
            have hszr : wr.heap.size < w1.heap.size := HB1.out.2.2.2.2.2.2
            have hbw1 : b < w1.heap.size := by omega
            go_wp2_with fail
            go_cut [7, 8] from 25 to 35 (fun nv ev wx => nv = .bool (apart ut.data.toList tt.data.toList) ∧ Below w1.heap.size w1 wx)
            case first =>
              go_region_law (first | (go_simp; go_at_call 10; refine (HNC.out w1.drew (show Rdy w1.drew from HB1.out.2.2.2.2.1)).mono ?_; rintro e w2 ⟨rfl, hb2⟩))
              all_goals (
                go_wp2_with fail
                go_meet
                exact ⟨rfl, ((Below.refl w1.heap.size w1).drew).trans hb2⟩)
            case rest =>
            obtain ⟨rfl, hb2'⟩ := hcut
            obtain ⟨w2, hw2⟩ : ∃ w2, w2 = wc := ⟨_, rfl⟩
            subst hw2
            rw [HAP.out]
            have HB2 := Lib.hid (HB1.out.2.1.trans (hb2'.mono (Nat.le_of_lt HB1.out.2.2.2.2.2.1)))
            have HBD2 := Lib.hid (builderF_below HB1.out.2.2.1 hb2')
            have hk2 : w2.heap[wr.heap.size]? = some (.cells #[.int .u8 tk, .string tt, .int .i64 tp] 27 (0, 0)) := by rw [hb2'.block _ hszr]; exact HB1.out.1
            have hsz2 : w.heap.size < w2.heap.size := Nat.lt_of_lt_of_le HB1.out.2.2.2.2.2.1 hb2'.size
            have HWB : Hid (Calls Tryd.prog 27 #[.pointer (some ⟨w.heap.size, 0, none⟩), .int .u8 32] w2 fun e w' => e = .returned .nilIface ∧ (Lib.BuilderAtF 57 5 w.heap.size w.heap.size (.pointer (some ⟨w.heap.size, 0, none⟩)) (Lib.byteCells (glue (textsOf (l.take (k + 1)))) ++ [.int .u8 32]) w' ∧ Below w.heap.size w2 w' ∧ Lib.OthersKept 5 (some w.heap.size) w2 w')) :=
              Tryd.Builder_WriteByte_k w.heap.size w.heap.size _ 32 w2 HBD2.out (by rw [Lib.byteCells_length]; have := HZ.out; omega) (by omega)
            have HK2 := Lib.hid hk2
            clear hk2 hb2' e0 e1 e2 p0 p1 p2 hbw1
            go_wp2_with fail
            refine HWB.out.mono ?_
            rintro e w3 ⟨rfl, hbd3, hb3, hok3⟩
            have HB3 := Lib.hid (HB2.out.trans hb3)
            obtain ⟨_, g1, _⟩ := cell3 (kept3 HK2.out hok3 hne)
            have hsz3 : w.heap.size < w3.heap.size := hbd3.lt
            have HWS : Hid (Calls Tryd.prog 28 #[.pointer (some ⟨w.heap.size, 0, none⟩), .string tt] w3 fun e w' => e = .returned (.tuple #[.int .i64 tt.size, .nilIface]) ∧ (Lib.BuilderAtF 57 5 w.heap.size w.heap.size (.pointer (some ⟨w.heap.size, 0, none⟩)) (Lib.byteCells (glue (textsOf (l.take (k + 1)))) ++ [.int .u8 32] ++ Lib.strCells tt) w' ∧ Below w.heap.size w3 w' ∧ Lib.OthersKept 5 (some w.heap.size) w3 w')) :=
              Tryd.Builder_WriteString_k w.heap.size w.heap.size _ tt w3 (.inr hbd3) (by rw [List.length_append, Lib.byteCells_length]; have := HZ.out; simp only [List.length_cons, List.length_nil]; omega) (by omega)
            clear hbd3 hb3 hok3
            go_wp2_with fail
            refine HWS.out.mono ?_
            rintro e w4 ⟨rfl, hbd4, hb4, hok4⟩
            have HEND : Hid (Lib.IsBuilderF 57 5 w.heap.size w.heap.size (Lib.byteCells (glue (textsOf (l.take (k + 1 + 1))))) w4) := by
              have h1 : glue (textsOf (l.take (k + 1 + 1))) = glue (textsOf (l.take (k + 1))) ++ [32] ++ tt.data.toList := by
                rw [HG.out, HLO.out, HAP.out]; simp
              rw [Hid, h1, Lib.byteCells_append, Lib.byteCells_append, ← Lib.strCells_eq]
              exact .inr hbd4
            have HB4 := Lib.hid (HB3.out.trans hb4)
            have hsz4 : w.heap.size < w4.heap.size := hbd4.lt
            clear hbd4 hb4 hok4 g1
            go_wp2_with fail
            go_roundw
            case rel => exact ⟨k + 1 + 1, by omega, by push_cast; rfl, hsz4, HB4.out, HEND.out, fun h => by omega, HALL.out⟩
            case measure => simp [intOf]; omega
    · have hke : k = l.length := by omega
      subst hke
      have HF := Lib.hid (show l.all mayT = true by have h1 := HI.out.2.2.2; rw [List.take_length] at h1; exact h1)
      have HBD : Hid (Lib.IsBuilderF 57 5 w.heap.size w.heap.size (Lib.byteCells (glue (textsOf l))) wr) := by have h1 := HI.out.2.1; rw [List.take_length] at h1; exact h1
      have HLEN : Hid (Calls Tryd.prog 29 #[.pointer (some ⟨w.heap.size, 0, none⟩)] wr fun e w' => e = .returned (.int .i64 (glue (textsOf l)).length) ∧ w' = wr) := by
        have h1 := Tryd.Builder_Len_f w.heap.size w.heap.size _ wr HBD.out
        rw [Lib.byteCells_length] at h1
        exact h1
      have HSTR : Hid (Calls Tryd.prog 30 #[.pointer (some ⟨w.heap.size, 0, none⟩)] wr fun e w' => e = .returned (.string (bsOf (glue (textsOf l)))) ∧ Below w.heap.size wr w') :=
        (Tryd.Builder_String_any_f w.heap.size w.heap.size _ wr HBD.out (by omega)).mono (fun e w' ⟨h, _, hb⟩ => ⟨h, hb⟩)
      clear h
      by_cases h4 : (glue (textsOf l)).length ≤ 4096
      · have HE : Hid (glueP l = (glue (textsOf l), 0)) := by rw [Hid, glueP, HF.out]; simp [h4]
        have h4' : ¬ (4096 : Int) < ((glue (textsOf l)).length : Int) := by omega
        clear h4
        go_wp2_with fail
        refine HLEN.out.mono ?_
        rintro e w1 ⟨rfl, rfl⟩
        go_wp2_with fail
        refine HSTR.out.mono ?_
        rintro e w2 ⟨rfl, hb2⟩
        go_wp2_with fail
        go_ret2
        exact ⟨by rw [HE.out]; rfl, HI.out.1.trans hb2⟩
      · have HE : Hid (glueP l = ([], 3)) := by rw [Hid, glueP, HF.out]; simp [h4]
        have h4' : (4096 : Int) < ((glue (textsOf l)).length : Int) := by omega
        clear h4
        go_wp2_with fail
        refine HLEN.out.mono ?_
        rintro e w1 ⟨rfl, rfl⟩
        go_wp2_with fail
        go_ret2
        exact ⟨by rw [HE.out]; rfl, HI.out.1⟩
end Go.Proofs.YtipbgaiaoahnmaaDoor
