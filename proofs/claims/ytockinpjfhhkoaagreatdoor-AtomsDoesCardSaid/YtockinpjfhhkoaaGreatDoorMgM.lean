/- tree.Names walked: which names may be declared (the set of those that were seen lies in a map). -/
import Derived.Maps.OwnOps
import Derived.Maps.Views
import Derived.Test.YtockinpjfhhkoaaGreatDoorMgJ
import Derived.Test.YtockinpjfhhkoaaGreatDoorMgB
namespace Go.Proofs.YtockinpjfhhkoaaGreatDoor
open Go.RowKit Go.Maps

def seenD : List ByteArray → DataW Unit
  | [] => .map []
  | x :: r => (seenD r).put (.string x.data.toList) (.lit (.int .i64 1))
theorem seenD_isMap : ∀ l, IsMap (seenD l)
  | [] => ⟨[], rfl⟩
  | x :: r => by
    obtain ⟨es, h⟩ := seenD_isMap r
    show IsMap ((seenD r).put _ _)
    rw [h]; exact ⟨_, rfl⟩
theorem seenD_at (s : ByteArray) : ∀ l, (seenD l).atKey (.string s.data.toList) (.lit (.int .i64 0)) = .lit (.int .i64 (if inN s l then 1 else 0))
  | [] => rfl
  | x :: r => by
    show ((seenD r).put _ _).atKey _ _ = _
    by_cases h : s.data.toList = x.data.toList
    · rw [h, atKey_put_same (seenD_isMap r) (show WideAt.IsKeyLit (.string _) from trivial)]
      have : inN s (x :: r) = true := by unfold inN; rw [List.any_cons, ByteArray.toList_eq, ByteArray.toList_eq, h]; simp
      rw [this]; rfl
    · rw [atKey_put_other (fun e => h (by injection e)), seenD_at s r]
      have : inN s (x :: r) = inN s r := by
        unfold inN; rw [List.any_cons, ByteArray.toList_eq, ByteArray.toList_eq]
        have : (s.data.toList == x.data.toList) = false := by simpa using h
        rw [this, Bool.false_or]
      rw [this]
theorem law9 : Keyed Tryz.prog 9 := string_keyed Tryz.underlying9
theorem zero3 (w : World) : (zeroValue 3).run Tryz.prog w = .ok (.int .i64 0) w := by kernel_rfl

/-- The map of those that were seen, and the variable that it lies in. -/
def Seen (w : World) (N n : Nat) (seen : List ByteArray) : Prop := w.ownsMap Tryz.prog 9 (plainElem Tryz.prog 3) N n (seenD seen) ∧ w.cell? ⟨N + 1, 0, none⟩ = some (.map (some N))

set_option maxRecDepth 100000 in
set_option maxHeartbeats 4000000 in
theorem odd45_any (s : ByteArray) (hs : s.size ≤ 1048576) (seen : List ByteArray) (N n : Nat) (w : World) (hr : Rdy w) (hN : 4 ≤ N) (hn : n < 100) (h : Seen w N n seen) :
    Calls Tryz.prog 135 #[.string s, .pointer (some ⟨N + 1, 0, none⟩)] w fun e w' => e = .returned (.bool (inN s seen || !nameB s.data.toList)) ∧ (inN s seen = false → Seen w' N (n + 1) (s :: seen)) ∧ w.grownBy w' (some N) := by
  obtain ⟨hown, hc⟩ := h
  have hml : s.size ≤ maxLen := by unfold maxLen; omega
  have hkey := Go.WideMaps.keyOf_string_mk (P := Tryz.prog) Tryz.underlying9 hml
  have HKEY := Lib.hid hkey
  have HAT := Lib.hid (seenD_at s seen)
  have HOWN := Lib.hid hown
  have HR := Lib.hid hr
  have hNs := hown.lt
  have HNM : Hid (∀ W, Rdy W → Calls Tryz.prog 136 #[.string s] W fun e w' => e = .returned (.bool (nameB s.data.toList)) ∧ Below W.heap.size W w') := fun W hW => name19_any s hs W hW
  have hcs : N + 1 < w.heap.size := by
    have h3 := hc
    unfold World.cell? at h3
    rcases Nat.lt_or_ge (N + 1) w.heap.size with h | h
    · exact h
    · simp [Array.getElem?_eq_none h] at h3
  have HPUT : Hid (seenD (s :: seen) = (seenD seen).put (.string s.data.toList) (.lit (.int .i64 1))) := rfl
  clear hown hkey hr hs hml
  have HRG : Hid (∀ w1, w.grownBy w1 (some N) → Rdy w1) := fun w1 hg1 => HR.out.belowB hN ((Below.refl N w).grown hg1 (by omega) (fun k hk => by cases hk; omega))
  cases q : inN s seen with
  | true =>
    have HCC : Hid (∀ c : Int, (seenD seen).atKey (.string s.data.toList) (.lit (.int .i64 0)) = .lit (.int .i64 c) → c = 1) := fun c h => by
      rw [HAT.out, q] at h; simpa using h.symm
    clear q
    go_enter Tryz.func135, Tryz.ntmps135
    go_wp2_with (first
      | (at_lookup; refine wpList_lookup_own_int _ rfl _ _ 202 rfl 9 3 .i64 law9 Tryz.underlying202 Tryz.underlying3 (zero3 _) N n _ rfl HOWN.out _ _ rfl HKEY.out ?_; intro c hat hwc; obtain rfl := HCC.out c hat; clear hat hwc)
      | (at_mapUpdate; refine wpList_mapUpdate_own _ rfl _ _ _ 202 rfl 9 3 law9 Tryz.underlying202 _ N n _ rfl HOWN.out (by unfold maxLen; omega) _ _ _ rfl rfl HKEY.out _ [] (plainElem_int Tryz.underlying3 (by decide)) ?_; intro w1 hown1 hg1; have HOWN1 := Lib.hid hown1; have HG1 := Lib.hid hg1; have HC1 := Lib.hid (hg1.cell hc (by simp)); have HR1 := Lib.hid (HRG.out w1 hg1); clear hown1 hg1))
    all_goals go_ret
    all_goals exact ⟨rfl, (fun h => by cases h), HG1.out⟩
  | false =>
    have HCC : Hid (∀ c : Int, (seenD seen).atKey (.string s.data.toList) (.lit (.int .i64 0)) = .lit (.int .i64 c) → c = 0) := fun c h => by
      rw [HAT.out, q] at h; simpa using h.symm
    clear q
    go_enter Tryz.func135, Tryz.ntmps135
    go_wp2_with (first
      | (at_lookup; refine wpList_lookup_own_int _ rfl _ _ 202 rfl 9 3 .i64 law9 Tryz.underlying202 Tryz.underlying3 (zero3 _) N n _ rfl HOWN.out _ _ rfl HKEY.out ?_; intro c hat hwc; obtain rfl := HCC.out c hat; clear hat hwc)
      | (at_mapUpdate; refine wpList_mapUpdate_own _ rfl _ _ _ 202 rfl 9 3 law9 Tryz.underlying202 _ N n _ rfl HOWN.out (by unfold maxLen; omega) _ _ _ rfl rfl HKEY.out _ [] (plainElem_int Tryz.underlying3 (by decide)) ?_; intro w1 hown1 hg1; have HOWN1 := Lib.hid hown1; have HG1 := Lib.hid hg1; have HC1 := Lib.hid (hg1.cell hc (by simp)); have HR1 := Lib.hid (HRG.out w1 hg1); clear hown1 hg1))
    refine (HNM.out _ HR1.out).mono ?_
    rintro e w2 ⟨rfl, hb2⟩
    have hz1 := HG1.out.size
    have hg2 : w.grownBy w2 (some N) := HG1.out.trans ⟨hb2.os, hb2.tape, hb2.output, hb2.size, fun k hk _ => hb2.block k hk⟩
    have HG2 := Lib.hid hg2
    have hs2 : Seen w2 N (n + 1) (s :: seen) := by
      refine ⟨?_, (hb2.cell (p := ⟨N + 1, 0, none⟩) (by show N + 1 < _; omega)).trans HC1.out⟩
      have h3 := HOWN1.out
      rw [HPUT.out]
      exact h3.kept (row := none) ⟨hb2.os, hb2.tape, hb2.output, hb2.size, fun k hk _ => hb2.block k hk⟩ (by simp)
    have HS2 := Lib.hid hs2
    clear hb2 hg2 hs2
    go_wp2_with fail
    all_goals go_ret
    all_goals exact ⟨rfl, fun _ => HS2.out, HG2.out⟩

/-- Whether one of some names is odd, those that were seen given. -/
theorem namesGo_succ (seen : List ByteArray) (x : ByteArray) (r : List ByteArray) : namesGo seen (x :: r) = (!inN x seen && nameB x.data.toList && namesGo (x :: seen) r) := rfl

set_option maxRecDepth 100000 in
set_option maxHeartbeats 4000000 in
theorem index62_any (l : List ByteArray) (v : Value) (hs : ∀ s ∈ l, s.size ≤ 1048576) (hl : l.length ≤ 50) (N : Nat) (w : World) (hr : Rdy w) (hN : 4 ≤ N) (hNw : N + 1 < w.heap.size) (hn : NRep w N v l) (h : Seen w N 0 []) :
    Calls Tryz.prog 206 #[v, .func (.func 135) #[] #[.pointer (some ⟨N + 1, 0, none⟩)]] w fun e w' => (∃ r : Int, e = .returned (.int .i64 r) ∧ Hid (decide (0 ≤ r) = !namesGo [] l)) ∧ Below N w w' := by
  obtain ⟨a, c, rfl, hm, hc⟩ := hn
  have HS0 := Lib.hid h
  have HR := Lib.hid hr
  have HL := Lib.hid hs
  have HCC := Lib.hid hc
  clear h hr hs hc
  go_enter Tryz.func206, Tryz.ntmps206
  go_wp2_with fail
  go_loopw [8] (fun i wr => ∃ j : Nat, j ≤ l.length ∧ i = .int .i64 j ∧ Hid (namesGo [] l = namesGo (l.take j).reverse (l.drop j)) ∧ Hid (Seen wr N j (l.take j).reverse) ∧ Below N w wr) (fun i _ => l.length - (intOf i).toNat)
  case atStart => exact ⟨0, Nat.zero_le _, rfl, rfl, HS0, Below.refl _ _⟩
  case round =>
    obtain ⟨j, hj, rfl, HT, HSJ, hbw⟩ := hrel
    have HB := Lib.hid hbw
    have hz := hbw.size
    by_cases hlt : j < l.length
    · rcases HCC.out with hc | ⟨b, off, rfl, hb, hc⟩
      · rw [hc] at hlt; exact absurd hlt (by simp)
      · have c0 := (hbw.cell (p := ⟨b, off + j, none⟩) hb).trans (hc j hlt)
        have hbl : b < wr.heap.size := by omega
        have HO := Lib.hid (odd45_any l[j] (HL.out _ (List.getElem_mem _)) (l.take j).reverse N j wr (HR.out.belowB hN hbw) hN (by omega) HSJ.out)
        have HD : Hid (l.drop j = l[j] :: l.drop (j + 1)) := List.drop_eq_getElem_cons hlt
        have HTK : Hid ((l.take (j + 1)).reverse = l[j] :: (l.take j).reverse) := by rw [Hid, List.take_succ_eq_append_getElem hlt, List.reverse_append]; rfl
        generalize l[j] = s at c0 HO HD HTK
        clear hc hbw hb
        cases q1 : inN s (l.take j).reverse with
        | true =>
          have HQ := Lib.hid q1
          clear q1
          go_wp2_with fail
          refine HO.out.mono ?_
          rintro e w1 ⟨rfl, _, hg⟩
          rw [HQ.out]
          have HG := Lib.hid (HB.out.grown hg (by omega) (fun k hk => by cases hk; exact Nat.le_refl _))
          clear hg
          go_wp2_with fail
          all_goals go_ret
          all_goals exact ⟨⟨_, rfl, by rw [Hid, HT.out, HD.out, namesGo_succ, HQ.out]; simp⟩, HG.out⟩
        | false =>
          cases q2 : nameB s.data.toList with
          | false =>
            have HQ := Lib.hid q1
            have HQ2 := Lib.hid q2
            clear q1 q2
            go_wp2_with fail
            refine HO.out.mono ?_
            rintro e w1 ⟨rfl, _, hg⟩
            rw [HQ.out, HQ2.out]
            have HG := Lib.hid (HB.out.grown hg (by omega) (fun k hk => by cases hk; exact Nat.le_refl _))
            clear hg
            go_wp2_with fail
            all_goals go_ret
            all_goals exact ⟨⟨_, rfl, by rw [Hid, HT.out, HD.out, namesGo_succ, HQ.out, HQ2.out]; simp⟩, HG.out⟩
          | true =>
            have HQ := Lib.hid q1
            have HQ2 := Lib.hid q2
            clear q1 q2
            go_wp2_with fail
            refine HO.out.mono ?_
            rintro e w1 ⟨rfl, hsn, hg⟩
            have HSN := Lib.hid (hsn HQ.out)
            rw [HQ.out, HQ2.out]
            have HG := Lib.hid (HB.out.grown hg (by omega) (fun k hk => by cases hk; exact Nat.le_refl _))
            clear hg hsn
            go_wp2_with fail
            go_roundw
            case rel => exact ⟨j + 1, by omega, by go_num, by rw [Hid, HT.out, HD.out, namesGo_succ, HQ.out, HQ2.out, HTK.out]; rfl, by rw [Hid, HTK.out]; exact HSN.out, HG.out⟩
            case measure => simp [intOf]; omega
    · have hje : j = l.length := by omega
      have HE : Hid (namesGo [] l = true) := by rw [Hid, HT.out, hje, List.drop_length]; rfl
      clear HT hbw
      go_wp2_with fail
      all_goals go_ret
      all_goals exact ⟨⟨_, rfl, by rw [Hid, HE.out]; rfl⟩, HB.out⟩

set_option maxRecDepth 100000 in
set_option maxHeartbeats 4000000 in
theorem contains47_any (l : List ByteArray) (v : Value) (hs : ∀ s ∈ l, s.size ≤ 1048576) (hl : l.length ≤ 50) (N : Nat) (w : World) (hr : Rdy w) (hN : 4 ≤ N) (hNw : N + 1 < w.heap.size) (hn : NRep w N v l) (h : Seen w N 0 []) :
    Calls Tryz.prog 137 #[v, .func (.func 135) #[] #[.pointer (some ⟨N + 1, 0, none⟩)]] w fun e w' => e = .returned (.bool (!namesGo [] l)) ∧ Below N w w' := by
  have HI := Lib.hid (index62_any l v hs hl N w hr hN hNw hn h)
  obtain ⟨a, c, rfl, hm, hc⟩ := hn
  clear hr hs hc h
  go_enter Tryz.func137, Tryz.ntmps137
  go_wp2_with fail
  refine HI.out.mono ?_
  rintro e w1 ⟨⟨r, rfl, hr⟩, hb1⟩
  go_wp2_with fail
  all_goals go_ret
  all_goals exact ⟨ret_bool' (by rw [← hr.out]), hb1⟩

set_option maxRecDepth 100000 in
set_option maxHeartbeats 4000000 in
theorem names17_any (l : List ByteArray) (v : Value) (hs : ∀ s ∈ l, s.size ≤ 1048576) (w : World) (hr : Rdy w) (hn : NRep w w.heap.size v l) :
    Calls Tryz.prog 68 #[v] w fun e w' => e = .returned (.int .i64 (namesR l)) ∧ Below w.heap.size w w' := by
  have hmm := @run_makeMap Tryz.prog
  have hmf : ∀ (fn : Fn) (first cap : Array Value) (w : World), (Instr.makeFunc fn first cap).run Tryz.prog w = .ok (.func fn first cap) w := fun _ _ _ _ => rfl
  have hb2 : Below w.heap.size w ((w.alloc (.map #[] 0)).alloc (.cells #[.map (some w.heap.size)] 202)) := ((Below.refl _ _).alloc (Nat.le_refl _) _).alloc (by simp) _
  have HB2 := Lib.hid hb2
  have HLT := Lib.hid hr.lt
  have HSN : Hid (Seen ((w.alloc (.map #[] 0)).alloc (.cells #[.map (some w.heap.size)] 202)) w.heap.size 0 []) := by
    refine ⟨(World.ownsMap_made w Tryz.prog 9 _).alloc _, ?_⟩
    rw [World.cell?_alloc_at _ _ _ _ (by simp)]; rfl
  have HCON : Hid (l.length ≤ 8 → _) := fun hl => contains47_any l v hs (by omega) w.heap.size _ (hr.belowB hr.lt hb2) hr.lt (by simp) (hn.up hb2 (Nat.le_refl _)) HSN.out
  have HE : Hid (namesR l = if decide (8 < l.length) || !namesGo [] l then 2 else 0) := rfl
  obtain ⟨a, c, rfl, hm, hc⟩ := hn
  clear hr hs hc hb2 HSN
  by_cases h8 : 8 < l.length
  · have H8 : Hid (decide (8 < l.length) = true) := by rw [Hid]; simp; omega
    go_enter Tryz.func68, Tryz.ntmps68
    go_wp2_with fail
    all_goals go_ret
    all_goals exact ⟨ret_i (by rw [HE.out, H8.out]; rfl), HB2.out⟩
  · have HC8 := Lib.hid (HCON.out (by omega))
    have H8 : Hid (decide (8 < l.length) = false) := by rw [Hid]; simp; omega
    cases q : namesGo [] l with
    | true =>
      have HQ := Lib.hid q
      clear q
      go_enter Tryz.func68, Tryz.ntmps68
      go_wp2_with fail
      refine HC8.out.mono ?_
      rintro e w1 ⟨rfl, hb1⟩
      rw [HQ.out]
      have HB1 := Lib.hid (HB2.out.trans hb1)
      clear hb1
      go_wp2_with fail
      all_goals go_ret
      all_goals exact ⟨ret_i (by rw [HE.out, H8.out, HQ.out]; rfl), HB1.out⟩
    | false =>
      have HQ := Lib.hid q
      clear q
      go_enter Tryz.func68, Tryz.ntmps68
      go_wp2_with fail
      refine HC8.out.mono ?_
      rintro e w1 ⟨rfl, hb1⟩
      rw [HQ.out]
      have HB1 := Lib.hid (HB2.out.trans hb1)
      clear hb1
      go_wp2_with fail
      all_goals go_ret
      all_goals exact ⟨ret_i (by rw [HE.out, H8.out, HQ.out]; rfl), HB1.out⟩
end Go.Proofs.YtockinpjfhhkoaaGreatDoor

/- Layer 16 walked: nodes counted. -/
namespace Go.Proofs.YtockinpjfhhkoaaGreatDoor
open Go.RowKit

set_option maxRecDepth 100000 in
set_option maxHeartbeats 2000000 in
theorem one58_any (k : Int) (s : ByteArray) (a : Option Addr) (l c : Nat) (w : World) :
    Calls Tryz.prog 144 #[.agg #[.int .u8 k, .string s, .slice a l c]] w fun e w' => e = .returned (.int .i64 1) ∧ Below w.heap.size w w' := by
  go_enter Tryz.func144, Tryz.ntmps144
  go_wp2_with fail
  all_goals go_ret
  all_goals exact ⟨rfl, (Below.refl _ _).alloc (Nat.le_refl _) _⟩

set_option maxRecDepth 100000 in
set_option maxHeartbeats 4000000 in
theorem count57_any (n : Nat) : ∀ (t : FT n) (v : Value) (w : World), FRep w w.heap.size n t v →
    Calls Tryz.prog 143 #[v, .func (.func 132) #[] #[], .func (.func 144) #[] #[]] w fun e w' => e = .returned (.int .i64 (cntF n t)) ∧ Below w.heap.size w w' := by
  induction n with
  | zero => intro t v w h; exact h.elim
  | succ n ih =>
    intro t v w h
    obtain ⟨k, s, of⟩ := t
    obtain ⟨a, c, rfl, hR⟩ := h
    dsimp only at hR ⊢
    have hm := hR.1
    have HR := Lib.hid hR
    have IH := Lib.hid ih
    have HE : Hid (cntF (n + 1) (k, s, of) = foldC (cntF n) 1 of) := rfl
    clear hR ih
    go_enter Tryz.func143, Tryz.ntmps143
    go_wp2_with fail
    refine (one58_any _ _ _ _ _ _).mono ?_
    rintro e w1 ⟨rfl, hb1⟩
    have hbl : w1.heap[w.heap.size]? = some (.cells #[.int .u8 k, .string s, .slice a of.length c] 25 (0, 0)) := by
      rw [hb1.block _ (by simp)]; exact Array.getElem?_push_size
    have hb2 : Below w.heap.size w w1 := ((Below.refl _ w).alloc (Nat.le_refl _) _).trans (hb1.mono (by simp))
    have HB2 := Lib.hid hb2
    have x1 := Lib.cell_of_heap hbl 0
    have x2 := Lib.cell_of_heap hbl 1
    have x3 := Lib.cell_of_heap hbl 2
    simp only [List.getElem?_toArray, List.getElem?_cons_zero, List.getElem?_cons_succ] at x1 x2 x3
    clear hb1 hb2 hbl
    go_wp2_with fail
    refine (ofFormula43_any _ _ _ _ _ _).mono ?_
    rintro e w2 ⟨rfl, hb3⟩
    have HB3 := Lib.hid (HB2.out.trans (hb3.mono HB2.out.size))
    clear hb3 x1 x2 x3
    go_wp2_with fail
    go_loopw [6, 16] (fun m i wr => ∃ j : Nat, j ≤ of.length ∧ i = .int .i64 j ∧ m = .int .i64 (foldC (cntF n) 1 (of.take j)) ∧ Below w.heap.size w wr) (fun _ i _ => of.length - (intOf i).toNat)
    case atStart => exact ⟨0, Nat.zero_le _, rfl, rfl, HB3.out⟩
    case round =>
      obtain ⟨j, hj, rfl, rfl, hbw⟩ := hrel
      have HBW := Lib.hid hbw
      by_cases hlt : j < of.length
      · obtain ⟨b, off, k', s', sa, sl, sc, rfl, hbl, c0, c1, c2, hr⟩ := (FRow.up HR.out hbw (Nat.le_refl _)).at j hlt
        have hz := hbw.size
        have hbl' : b < wr.heap.size := by omega
        have hS := Lib.hid (foldC_succ (cntF n) 1 of j hlt)
        have HC := Lib.hid (IH.out of[j] _ (wr.alloc (.cells #[.int .u8 k', .string s', .slice sa sl sc] 25)) (hr.up ((Below.refl _ wr).alloc (by omega) _) (by simp; omega)))
        have hba : Below w.heap.size w (wr.alloc (.cells #[.int .u8 k', .string s', .slice sa sl sc] 25)) := hbw.alloc hz _
        have HBA := Lib.hid hba
        clear hr hbw hba
        go_wp2_with fail
        refine HC.out.mono ?_
        rintro e w3 ⟨rfl, hb4⟩
        have HB4 := Lib.hid (HBA.out.trans (hb4.mono HBA.out.size))
        clear hb4
        go_wp2_with fail
        go_roundw
        case rel => exact ⟨j + 1, by omega, by go_num, by rw [hS.out], HB4.out⟩
        case measure => simp [intOf]; omega
      · have hje : j = of.length := by omega
        subst hje
        have HA := Lib.hid (foldC_all (cntF n) 1 of)
        clear hbw
        go_wp2_with fail
        all_goals go_ret
        all_goals exact ⟨ret_i (by rw [HE.out, HA.out]), HBW.out⟩

set_option maxRecDepth 100000 in
set_option maxHeartbeats 4000000 in
theorem formulas41_any (n : Nat) (of : List (FT n)) (a : Option Addr) (c : Nat) (w : World) (hR : FRow w w.heap.size n a of) :
    Calls Tryz.prog 79 #[.slice a of.length c] w fun e w' => e = .returned (.int .i64 (fmsC n of)) ∧ Below w.heap.size w w' := by
  have hm := hR.1
  have HR := Lib.hid hR
  have HE : Hid (fmsC n of = foldC (cntF n) 0 of) := rfl
  clear hR
  go_enter Tryz.func79, Tryz.ntmps79
  go_wp2_with fail
  go_loopw [2, 7] (fun m i wr => ∃ j : Nat, j ≤ of.length ∧ i = .int .i64 j ∧ m = .int .i64 (foldC (cntF n) 0 (of.take j)) ∧ Below w.heap.size w wr) (fun _ i _ => of.length - (intOf i).toNat)
  case atStart => exact ⟨0, Nat.zero_le _, rfl, rfl, Below.refl _ _⟩
  case round =>
    obtain ⟨j, hj, rfl, rfl, hbw⟩ := hrel
    have HBW := Lib.hid hbw
    by_cases hlt : j < of.length
    · obtain ⟨b, off, k', s', sa, sl, sc, rfl, hbl, c0, c1, c2, hr⟩ := (FRow.up HR.out hbw (Nat.le_refl _)).at j hlt
      have hz := hbw.size
      have hbl' : b < wr.heap.size := by omega
      have hS := Lib.hid (foldC_succ (cntF n) 0 of j hlt)
      have HC := Lib.hid (count57_any n of[j] _ (wr.alloc (.cells #[.int .u8 k', .string s', .slice sa sl sc] 25)) (hr.up ((Below.refl _ wr).alloc (by omega) _) (by simp; omega)))
      have hba : Below w.heap.size w (wr.alloc (.cells #[.int .u8 k', .string s', .slice sa sl sc] 25)) := hbw.alloc hz _
      have HBA := Lib.hid hba
      clear hr hbw hba
      go_wp2_with fail
      refine HC.out.mono ?_
      rintro e w3 ⟨rfl, hb4⟩
      have HB4 := Lib.hid (HBA.out.trans (hb4.mono HBA.out.size))
      clear hb4
      go_wp2_with fail
      go_roundw
      case rel => exact ⟨j + 1, by omega, by go_num, by rw [hS.out], HB4.out⟩
      case measure => simp [intOf]; omega
    · have hje : j = of.length := by omega
      subst hje
      have HA := Lib.hid (foldC_all (cntF n) 0 of)
      clear hbw
      go_wp2_with fail
      all_goals go_ret
      all_goals exact ⟨ret_i (by rw [HE.out, HA.out]), HBW.out⟩

set_option maxRecDepth 100000 in
set_option maxHeartbeats 4000000 in
theorem many40_any (m : Nat) (k : Int) (is : List (FT m)) (a1 : Option Addr) (c1 : Nat) (a : Option Addr) (l c : Nat) (lo hi : Int) (ls hs op : Bool) (w : World) (hR : FRow w w.heap.size m a1 is) :
    Calls Tryz.prog 78 #[.agg #[.int .u8 k, .slice a1 is.length c1, .slice a l c, .int .i64 lo, .bool ls, .int .i64 hi, .bool hs, .bool op]] w fun e w' => e = .returned (.int .i64 (oneX k is)) ∧ Below w.heap.size w w' := by
  have hb : Below w.heap.size w (w.alloc (.cells #[.int .u8 k, .slice a1 is.length c1, .slice a l c, .int .i64 lo, .bool ls, .int .i64 hi, .bool hs, .bool op] 47)) := (Below.refl _ _).alloc (Nat.le_refl _) _
  have HF := Lib.hid (formulas41_any m is a1 c1 _ (hR.up hb hb.size))
  have HB := Lib.hid hb
  have HE : Hid (oneX k is = if k = 1 then fmsC m is else 1) := rfl
  clear hb hR
  cases q : k == 1 with
  | true =>
    have HQ := Lib.hid q
    go_enter Tryz.func78, Tryz.ntmps78
    go_wp2_with fail
    refine HF.out.mono ?_
    rintro e w1 ⟨rfl, hb1⟩
    have HB1 := Lib.hid (HB.out.trans (hb1.mono HB.out.size))
    clear hb1
    go_wp2_with fail
    all_goals go_ret
    all_goals exact ⟨ret_i (by rw [HE.out, if_pos (by simpa using HQ.out)]), HB1.out⟩
  | false =>
    have HQ := Lib.hid q
    go_enter Tryz.func78, Tryz.ntmps78
    go_wp2_with fail
    all_goals go_ret
    all_goals exact ⟨ret_i (by rw [HE.out, if_neg (by simpa using HQ.out)]), HB.out⟩

set_option maxRecDepth 100000 in
set_option maxHeartbeats 4000000 in
theorem count39_any (m n : Nat) : ∀ (t : XT m n) (v : Value) (w : World), XRep w w.heap.size m n t v →
    Calls Tryz.prog 77 #[v, .func (.func 70) #[] #[], .func (.func 78) #[] #[]] w fun e w' => e = .returned (.int .i64 (cntX oneX n t)) ∧ Below w.heap.size w w' := by
  induction n with
  | zero => intro t v w h; exact h.elim
  | succ n ih =>
    intro t v w h
    obtain ⟨k, is, of, lo, ls, hi, hs, op⟩ := t
    obtain ⟨a1, c1, a, c, rfl, hR1, hR⟩ := h
    dsimp only at hR hR1 ⊢
    have hm := hR.1
    have HR := Lib.hid hR
    have IH := Lib.hid ih
    have HE : Hid (cntX oneX (n + 1) ((k, is, of, ⟨lo, ls, hi, hs, op⟩) : XT m (n + 1)) = foldC (cntX oneX n) (oneX k is) of) := rfl
    have hbx : Below w.heap.size w (w.alloc (.cells #[.int .u8 k, .slice a1 is.length c1, .slice a of.length c, .int .i64 lo, .bool ls, .int .i64 hi, .bool hs, .bool op] 47)) := (Below.refl _ _).alloc (Nat.le_refl _) _
    have HONE := Lib.hid (many40_any m k is a1 c1 a of.length c lo hi ls hs op _ (hR1.up hbx hbx.size))
    clear hR ih hR1 hbx
    go_enter Tryz.func77, Tryz.ntmps77
    go_wp2_with fail
    refine HONE.out.mono ?_
    rintro e w1 ⟨rfl, hb1⟩
    have hbl : w1.heap[w.heap.size]? = some (.cells #[.int .u8 k, .slice a1 is.length c1, .slice a of.length c, .int .i64 lo, .bool ls, .int .i64 hi, .bool hs, .bool op] 47 (0, 0)) := by
      rw [hb1.block _ (by simp)]; exact Array.getElem?_push_size
    have hb2 : Below w.heap.size w w1 := ((Below.refl _ w).alloc (Nat.le_refl _) _).trans (hb1.mono (by simp))
    have HB2 := Lib.hid hb2
    have x0 := Lib.cell_of_heap hbl 0
    have x1 := Lib.cell_of_heap hbl 1
    have x2 := Lib.cell_of_heap hbl 2
    have x3 := Lib.cell_of_heap hbl 3
    have x4 := Lib.cell_of_heap hbl 4
    have x5 := Lib.cell_of_heap hbl 5
    have x6 := Lib.cell_of_heap hbl 6
    have x7 := Lib.cell_of_heap hbl 7
    simp only [List.getElem?_toArray, List.getElem?_cons_zero, List.getElem?_cons_succ] at x0 x1 x2 x3 x4 x5 x6 x7
    clear hb1 hb2 hbl
    generalize oneX k is = N1 at HE
    go_wp2_with fail
    refine (ofTre33_any _ _ _ _ _ _ _ _ _ _ _ _ _).mono ?_
    rintro e w2 ⟨rfl, hb3⟩
    have HB3 := Lib.hid (HB2.out.trans (hb3.mono HB2.out.size))
    clear hb3 x0 x1 x2 x3 x4 x5 x6 x7
    go_wp2_with fail
    go_loopw [6, 16] (fun m_ i wr => ∃ j : Nat, j ≤ of.length ∧ i = .int .i64 j ∧ m_ = .int .i64 (foldC (cntX oneX n) N1 (of.take j)) ∧ Below w.heap.size w wr) (fun _ i _ => of.length - (intOf i).toNat)
    case atStart => exact ⟨0, Nat.zero_le _, rfl, rfl, HB3.out⟩
    case round =>
      obtain ⟨j, hj, rfl, rfl, hbw⟩ := hrel
      have HBW := Lib.hid hbw
      by_cases hlt : j < of.length
      · obtain ⟨b, off, k', a1', l1', c1', a2', l2', c2', lo', ls', hi', hs', op', rfl, hbl, c0, d1, c2, c3, c4, c5, c6, c7, hr⟩ := (XRow.up HR.out hbw (Nat.le_refl _)).at j hlt
        have hz := hbw.size
        have hbl' : b < wr.heap.size := by omega
        have hS := Lib.hid (foldC_succ (cntX oneX n) N1 of j hlt)
        have HC := Lib.hid (IH.out of[j] _ (wr.alloc (.cells #[.int .u8 k', .slice a1' l1' c1', .slice a2' l2' c2', .int .i64 lo', .bool ls', .int .i64 hi', .bool hs', .bool op'] 47)) (hr.up ((Below.refl _ wr).alloc (by omega) _) (by simp; omega)))
        have HBA : Hid (∀ o, Below w.heap.size w (wr.alloc o)) := fun o => hbw.alloc hz o
        clear hr hbw
        go_wp2_with fail
        refine HC.out.mono ?_
        rintro e w3 ⟨rfl, hb4⟩
        have HB4 := Lib.hid ((HBA.out _).trans (hb4.mono (HBA.out _).size))
        clear hb4
        go_wp2_with fail
        go_roundw
        case rel => exact ⟨j + 1, by omega, by go_num, by rw [hS.out], HB4.out⟩
        case measure => simp [intOf]; omega
      · have hje : j = of.length := by omega
        subst hje
        have HA := Lib.hid (foldC_all (cntX oneX n) N1 of)
        clear hbw
        go_wp2_with fail
        all_goals go_ret
        all_goals exact ⟨ret_i (by rw [HE.out, HA.out]), HBW.out⟩

set_option maxRecDepth 100000 in
set_option maxHeartbeats 4000000 in
theorem many14_any (m n : Nat) (t : XT m n) (v : Value) (w : World) (h : XRep w w.heap.size m n t v) :
    Calls Tryz.prog 33 #[v] w fun e w' => e = .returned (.int .i64 (manyX n t)) ∧ Below w.heap.size w w' := by
  obtain ⟨k, a1, l1, c1, a, l, c, lo, ls, hi, hs, op, rfl⟩ := h.shape
  have hb : Below w.heap.size w (w.alloc (.cells #[.int .u8 k, .slice a1 l1 c1, .slice a l c, .int .i64 lo, .bool ls, .int .i64 hi, .bool hs, .bool op] 47)) := (Below.refl _ _).alloc (Nat.le_refl _) _
  have HC := Lib.hid (count39_any m n t _ _ (h.up hb hb.size))
  have HB := Lib.hid hb
  clear h hb
  go_enter Tryz.func33, Tryz.ntmps33
  go_wp2_with fail
  refine HC.out.mono ?_
  rintro e w1 ⟨rfl, hb1⟩
  have HB1 := Lib.hid (HB.out.trans (hb1.mono HB.out.size))
  clear hb1
  go_wp2_with fail
  all_goals go_ret
  all_goals exact ⟨rfl, HB1.out⟩
end Go.Proofs.YtockinpjfhhkoaaGreatDoor
