/- The region of PropMorgan that draws and makes the second formula, walked by itself. -/
import Derived.Test.YtabpfbgcdmejbaaDoorPropJ0
namespace Go.Proofs.YtabpfbgcdmejbaaDoor
open Go.RowKit
attribute [local go_sem ↓] Go.wp_at_zero Go.wp_at_succ
attribute [local go_sem] Oper.semAt_some

set_option maxRecDepth 100000 in
set_option maxHeartbeats 16000000 in
theorem morgan_region5 (ops : Array Oper) (hops : bodyRegion Tryd.f8 5 = some ops) (u0 u1 u2 u3 u6 u7 u8 u9 u10 u11 u12 u13 u14 u15 u16 u17 u18 u19 u20 u21 u22 u23 u24 u25 u26 u27 u28 u29 u30 u31 u32 u33 u34 u35 u36 u37 u38 u39 u40 u41 u42 u43 u44 u45 u46 u47 u48 u49 u50 u51 u52 u53 u54 u55 u56 u57 u58 u59 u60 u61 u62 u63 u64 u65 u66 u67 u68 u69 u70 u71 u72 u73 u74 u75 u76 u77 u78 u79 u80 u81 u82 u83 u84 u85 u86 u87 u88 u89 u90 u91 u92 u93 u94 u95 u96 u97 u98 u99 u100 u101 u102 u103 u104 u105 u106 u107 u108 u109 u110 u111 u112 u113 u114 u115 u116 u117 u118 u119 u120 u121 u122 u123 u124 u125 u126 u127 : Value) (N M : Nat) (k : Int) (s : ByteArray) (a : Option Addr) (l c : Nat) (k' : Int) (s' : ByteArray) (a' : Option Addr) (l' c' : Nat) (n : Nat) (f g : FT n) (wd : World)
    (HC : Hid (∀ W, Below wd.heap.size wd W → W.cell? ⟨N, 0, none⟩ = some (.int .u8 k) ∧ W.cell? ⟨N, 1, none⟩ = some (.string s) ∧ W.cell? ⟨N, 2, none⟩ = some (.slice a l c) ∧
      W.cell? ⟨M, 0, none⟩ = some (.int .u8 k') ∧ W.cell? ⟨M, 1, none⟩ = some (.string s') ∧ W.cell? ⟨M, 2, none⟩ = some (.slice a' l' c') ∧ M < W.heap.size))
    (HF : Hid (∀ W, Below wd.heap.size wd W → FRep W W.heap.size n f (.agg #[.int .u8 k, .string s, .slice a l c]))) (HG : Hid (∀ W, Below wd.heap.size wd W → FRep W W.heap.size n g (.agg #[.int .u8 k', .string s', .slice a' l' c'])))
    (Q : Exit → Act → World → Prop)
    (hQ : Hid (∀ (Z : Nat) (v42 v43 v44 v45 v46 v47 v48 v49 : Value) (wx : World), Hid (Below wd.heap.size wd wx ∧ VarF wx Z (n + 2) ((6, ⟨#[]⟩, [notT f, notT g]) : FT (n + 2))) →
      Q .normal { tmps := #[u0, u1, u2, u3, .pointer (some ⟨N, 0, none⟩), .pointer (some ⟨M, 0, none⟩), u6, u7, u8, .pointer (some ⟨Z, 0, none⟩), u10, u11, u12, u13, u14, u15, u16, u17, u18, u19, u20, u21, u22, u23, u24, u25, u26, u27, u28, u29, u30, u31, u32, u33, u34, u35, u36, u37, u38, u39, u40, u41, v42, v43, v44, v45, v46, v47, v48, v49, u50, u51, u52, u53, u54, u55, u56, u57, u58, u59, u60, u61, u62, u63, u64, u65, u66, u67, u68, u69, u70, u71, u72, u73, u74, u75, u76, u77, u78, u79, u80, u81, u82, u83, u84, u85, u86, u87, u88, u89, u90, u91, u92, u93, u94, u95, u96, u97, u98, u99, u100, u101, u102, u103, u104, u105, u106, u107, u108, u109, u110, u111, u112, u113, u114, u115, u116, u117, u118, u119, u120, u121, u122, u123, u124, u125, u126, u127], defers := [] } wx)) :
    (Code.region 5 ops true).wp Tryd.prog Q { tmps := #[u0, u1, u2, u3, .pointer (some ⟨N, 0, none⟩), .pointer (some ⟨M, 0, none⟩), u6, u7, u8, u9, u10, u11, u12, u13, u14, u15, u16, u17, u18, u19, u20, u21, u22, u23, u24, u25, u26, u27, u28, u29, u30, u31, u32, u33, u34, u35, u36, u37, u38, u39, u40, u41, u42, u43, u44, u45, u46, u47, u48, u49, u50, u51, u52, u53, u54, u55, u56, u57, u58, u59, u60, u61, u62, u63, u64, u65, u66, u67, u68, u69, u70, u71, u72, u73, u74, u75, u76, u77, u78, u79, u80, u81, u82, u83, u84, u85, u86, u87, u88, u89, u90, u91, u92, u93, u94, u95, u96, u97, u98, u99, u100, u101, u102, u103, u104, u105, u106, u107, u108, u109, u110, u111, u112, u113, u114, u115, u116, u117, u118, u119, u120, u121, u122, u123, u124, u125, u126, u127], defers := [] } wd := by
  simp only [bodyRegion, Tryd.f8, regionOf] at hops
  simp (config := { decide := true }) only [reduceIte] at hops
  obtain rfl := Option.some.inj hops
  clear hops
  have hself : Below wd.heap.size wd wd := Below.refl _ _
  obtain ⟨x0, x1, x2, y0, y1, y2, hz⟩ := HC.out _ hself
  go_region_held3 (fun w' => (w'.cell? ⟨N, 0, none⟩ = some (.int .u8 k) ∧ w'.cell? ⟨N, 1, none⟩ = some (.string s) ∧ w'.cell? ⟨N, 2, none⟩ = some (.slice a l c) ∧
      w'.cell? ⟨M, 0, none⟩ = some (.int .u8 k') ∧ w'.cell? ⟨M, 1, none⟩ = some (.string s') ∧ w'.cell? ⟨M, 2, none⟩ = some (.slice a' l' c') ∧ M < w'.heap.size) ∧ Below wd.heap.size wd w')
    ((refine ⟨HC.out _ ?_, ?_⟩ <;> repeat (first | assumption | refine Below.drew ?_ | refine below_alloc ?_ _)))
    (first | (go_at_call 20; refine (made20_any _ _ _ _ _).mono ?_; rintro e wz ⟨rfl, rfl⟩))
  all_goals (
    refine hQ.out _ _ _ _ _ _ _ _ _ _ ?_
    apply leaf_two (k := 6) (f0 := .int .u8 k) (f1 := .string s) (f2 := .slice a l c) (g0 := .int .u8 k') (g1 := .string s') (g2 := .slice a' l' c') (HF := HF.out) (HG := HG.out)
    case hZ => repeat (first | with_reducible refine heap_dr ?_ | (with_reducible refine heap_top ?_; simp; done) | (with_reducible refine heap_in ?_ ?_; simp <;> omega))
    case hC => repeat (first | with_reducible refine heap_dr ?_ | (with_reducible refine heap_top ?_; simp; done) | (with_reducible refine heap_in ?_ ?_; simp <;> omega))
    case hA => repeat (first | with_reducible refine heap_dr ?_ | (with_reducible refine heap_top ?_; simp; done) | (with_reducible refine heap_in ?_ ?_; simp <;> omega))
    case hB => repeat (first | with_reducible refine heap_dr ?_ | (with_reducible refine heap_top ?_; simp; done) | (with_reducible refine heap_in ?_ ?_; simp <;> omega))
    case hb => repeat (first | assumption | with_reducible exact Below.refl _ _ | with_reducible refine Below.drew ?_ | with_reducible refine below_alloc ?_ _))
end Go.Proofs.YtabpfbgcdmejbaaDoor
