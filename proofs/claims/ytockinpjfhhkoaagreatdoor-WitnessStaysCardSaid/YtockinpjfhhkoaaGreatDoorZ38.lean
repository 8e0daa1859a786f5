/- The parser walked: an interval. (Printed by gen_psn.py.) -/
import Derived.Test.YtockinpjfhhkoaaGreatDoorZ37
set_option maxRecDepth 100000
set_option maxHeartbeats 16000000
open List renaming getElem?_cons_zero → J7, getElem?_cons_succ → J8, getElem?_toArray → J9
open Go.Lib renaming cell_of_heap → Jc, frozen_of_heap → Jf, hid → Jh
namespace Go.Proofs.YtockinpjfhhkoaaGreatDoor
open Go.RowKit
theorem Ps.setCell {pb tb deep : Nat} {w : World} {l : List Tok} (h : Ps pb tb w l deep) {g : Nat} (hg : pb ≠ g) (hT : tb ≠ g) (i : Nat) (v : Value) : Ps pb tb (w.setCell ⟨g,i,none⟩ v) l deep:=by
 obtain ⟨off,cap,h1,h2,h3,h4,h5,h6⟩:=h.blk
 exact ⟨⟨off,cap,(z04 _ _ _ _ _ hg).trans h1,h2,h3,h4,by simpa [World.setCell] using h5,h6.agree (z04 _ _ _ _ _ hT)⟩,h.ends,h.toks⟩
def OutS (pb tb deep : Nat) (w : World) (r : PRes Spn) (e : Ending) (w' : World) : Prop :=
 match r with
 | .ok (i,l') => e = .returned (.agg #[.int .i64 i.low,.bool i.ls,.int .i64 i.high,.bool i.hs,.bool i.op]) ∧ Ps pb tb w' l' deep ∧ BtP pb w w'
 | .error c => e = .panicked (thr c.1 c.2) ∧ BtP pb w w'
theorem z0j (l : List Tok) : z2g l =
 match (if isT [40] l = true then .ok l.tail else z0s [91] l) with
 | .error e => .error e
 | .ok l1 =>
  match numR l1 with
  | .error e => .error e
  | .ok (low,l2) =>
   match z0s [44] l2 with
   | .error e => .error e
   | .ok l3 =>
    if isT [111,111] l3 = true then
     match z0s [41] l3.tail with
     | .error e => .error e
     | .ok l4 => .ok (⟨low,isT [40] l,0,false,true⟩,l4)
    else
     match numR l3 with
     | .error e => .error e
     | .ok (high,l4) =>
      match (if isT [41] l4 = true then .ok l4.tail else z0s [93] l4) with
      | .error e => .error e
      | .ok l5 => .ok (⟨low,isT [40] l,high,isT [41] l4,false⟩,l5):=rfl
theorem zah (pb tb deep : Nat) (l : List Tok) (w : World) (h : Ps pb tb w l deep) :
 Calls Tryz.prog 248 #[.pointer (some ⟨pb,0,none⟩)] w (OutS pb tb deep w (z2g l)):=by
 have hpb:=h.lt
 have htb : tb ≠ w.heap.size:=Nat.ne_of_lt h.tb_lt
 obtain ⟨W0,hW0⟩ : ∃ W0,W0 = w.alloc (.cells #[.int .i64 0,.bool false,.int .i64 0,.bool false,.bool false] 45):=⟨_,rfl⟩
 have HP0 : Hid (Ps pb tb W0 l deep):=by rw [Hid,hW0]; exact h.alloc _
 have HB0 : Hid (BtP pb w W0):=by rw [Hid,hW0]; exact (BtP.refl pb w).alloc _
 have HK0 : Hid (W0.heap[w.heap.size]? = some (.cells #[.int .i64 0,.bool false,.int .i64 0,.bool false,.bool false] 45 (0,0))):=by rw [Hid,hW0]; exact z0b rfl
 have HW0:=Jh hW0.symm
 clear h hW0
 go_enter Tryz.func248,Tryz.ntmps248
 go_wp2_with fail
 rw [HW0.out]
 clear HW0
 have HM1:=Jh (z1i pb tb deep l ⟨#[40]⟩ (by decide) _ HP0.out)
 have HM1 : Hid (Calls Tryz.prog 227 #[.pointer (some ⟨pb,0,none⟩),.string ⟨#[40]⟩] W0 fun e w' => e = .returned (.bool (isT [40] l)) ∧ Ps pb tb w' (if isT [40] l then (l).tail else l) deep ∧ BtP pb W0 w'):=HM1
 cases q2 : isT [40] l with
 | true =>
  have Q3:=Jh q2
  rw [q2] at HM1
  simp only [if_true] at HM1
  clear q2
  refine HM1.out.mono ?_
  rintro e w4 ⟨rfl,hp5,hb6⟩
  have HP7:=Jh hp5
  have HB8:=Jh (HB0.out.trans hb6)
  have HK9:=Jh (hb6.at HK0.out (by omega))
  clear hp5 hb6
  have hk10:=HK9.out
  have e11:=Jc hk10 1
  have f12:=Jf hk10 1
  have lt13:=(Array.getElem?_eq_some_iff.1 hk10).1
  have HK15 : Hid ((w4.setCell ⟨w.heap.size,1,none⟩ (.bool true)).heap[w.heap.size]? = some (.cells #[.int .i64 0,.bool true,.int .i64 0,.bool false,.bool false] 45 (0,0))):=z0l hk10 1 _
  have g14:=Jc HK15.out 1
  simp only [J9,J7,J8] at e11 g14
  have HP16:=Jh (HP7.out.setCell (g:=w.heap.size) (by omega) htb 1 (.bool true))
  have HB17:=Jh (HB8.out.setCell (Nat.le_refl _) 1 (.bool true))
  clear hk10
  go_wp2_with fail
  obtain ⟨⟨tk18,ts19,tp20⟩,r21,hl22⟩:=HP16.out.ends.cons
  have HX23 : Hid (Ps pb tb (w4.setCell ⟨w.heap.size,1,none⟩ (.bool true)) (⟨tk18,ts19,tp20⟩ :: r21) deep):=Jh (by have:=HP16.out; rw [hl22] at this; exact this)
  have HL24:=Jh hl22
  clear hl22
  by_cases q25 : tk18 = 2
  ·subst q25
   have NF29 : Hid (numR ((l).tail) = .ok (z2o ts19.data.toList,r21)):=by rw [Hid,HL24.out]; rfl
   refine (z4a pb tb deep ts19 tp20 r21 _ HX23.out).mono ?_
   rintro e w26 ⟨rfl,hp27,hb28⟩
   have HP31:=Jh hp27
   have HB32:=Jh (HB17.out.trans hb28)
   have HK33:=Jh (hb28.at HK15.out (by omega))
   clear hp27 hb28
   generalize D30E : z2o ts19.data.toList = D30 at NF29 ⊢
   clear D30E
   have hk34:=HK33.out
   have e35:=Jc hk34 0
   have f36:=Jf hk34 0
   have lt37:=(Array.getElem?_eq_some_iff.1 hk34).1
   have HK39 : Hid ((w26.setCell ⟨w.heap.size,0,none⟩ (.int .i64 D30)).heap[w.heap.size]? = some (.cells #[.int .i64 D30,.bool true,.int .i64 0,.bool false,.bool false] 45 (0,0))):=z0l hk34 0 _
   have g38:=Jc HK39.out 0
   simp only [J9,J7] at e35 g38
   have HP40:=Jh (HP31.out.setCell (g:=w.heap.size) (by omega) htb 0 (.int .i64 D30))
   have HB41:=Jh (HB32.out.setCell (Nat.le_refl _) 0 (.int .i64 D30))
   clear hk34
   go_wp2_with fail
   cases q42 : isT [44] r21 with
   | true =>
    have TF44 : Hid (z0s [44] (r21) = .ok (r21).tail):=by rw [Hid,z0s,q42]; rfl
    refine (z1t pb tb deep _ r21 ⟨#[44]⟩ (by decide) _ (HP40.out.alloc (.cells #[.string ⟨#[44]⟩] 9)) (z0b (by simp [World.setCell])) q42).mono ?_
    rintro e w45 ⟨rfl,hp46,hb47⟩
    have hb47:=((BtP.refl pb (w26.setCell ⟨w.heap.size,0,none⟩ (.int .i64 D30))).alloc (.cells #[.string ⟨#[44]⟩] 9)).trans hb47
    clear q42
    have HP48:=Jh hp46
    have HB49:=Jh (HB41.out.trans hb47)
    have HK50:=Jh (hb47.at HK39.out (by omega))
    clear hp46 hb47
    go_wp2_with fail
    have HM51:=Jh (z1i pb tb deep (r21).tail ⟨#[111,111]⟩ (by decide) _ HP48.out)
    have HM51 : Hid (Calls Tryz.prog 227 #[.pointer (some ⟨pb,0,none⟩),.string ⟨#[111,111]⟩] w45 fun e w' => e = .returned (.bool (isT [111,111] (r21).tail)) ∧ Ps pb tb w' (if isT [111,111] (r21).tail then ((r21).tail).tail else (r21).tail) deep ∧ BtP pb w45 w'):=HM51
    cases q52 : isT [111,111] (r21).tail with
    | true =>
     have Q53:=Jh q52
     rw [q52] at HM51
     simp only [if_true] at HM51
     clear q52
     refine HM51.out.mono ?_
     rintro e w54 ⟨rfl,hp55,hb56⟩
     have HP57:=Jh hp55
     have HB58:=Jh (HB49.out.trans hb56)
     have HK59:=Jh (hb56.at HK50.out (by omega))
     clear hp55 hb56
     have hk60:=HK59.out
     have e61:=Jc hk60 4
     have f62:=Jf hk60 4
     have lt63:=(Array.getElem?_eq_some_iff.1 hk60).1
     have HK65 : Hid ((w54.setCell ⟨w.heap.size,4,none⟩ (.bool true)).heap[w.heap.size]? = some (.cells #[.int .i64 D30,.bool true,.int .i64 0,.bool false,.bool true] 45 (0,0))):=z0l hk60 4 _
     have g64:=Jc HK65.out 4
     simp only [J9,J7,J8] at e61 g64
     have HP66:=Jh (HP57.out.setCell (g:=w.heap.size) (by omega) htb 4 (.bool true))
     have HB67:=Jh (HB58.out.setCell (Nat.le_refl _) 4 (.bool true))
     clear hk60
     go_wp2_with fail
     cases q68 : isT [41] ((r21).tail).tail with
     | true =>
      have TF70 : Hid (z0s [41] (((r21).tail).tail) = .ok (((r21).tail).tail).tail):=by rw [Hid,z0s,q68]; rfl
      refine (z1t pb tb deep _ ((r21).tail).tail ⟨#[41]⟩ (by decide) _ (HP66.out.alloc (.cells #[.string ⟨#[41]⟩] 9)) (z0b (by simp [World.setCell])) q68).mono ?_
      rintro e w71 ⟨rfl,hp72,hb73⟩
      have hb73:=((BtP.refl pb (w54.setCell ⟨w.heap.size,4,none⟩ (.bool true))).alloc (.cells #[.string ⟨#[41]⟩] 9)).trans hb73
      clear q68
      have HP74:=Jh hp72
      have HB75:=Jh (HB67.out.trans hb73)
      have HK76:=Jh (hb73.at HK65.out (by omega))
      clear hp72 hb73
      go_wp2_with fail
      first | refine bodyPost_ret (results_cell_row rfl _ _ _ _ _ _ _ rfl HK76.out Tryz.underlying45 rfl (by kernel_rfl)) rfl ?_ | refine And.intro rfl (Exists.intro _ (And.intro (results_cell_row rfl _ _ _ _ _ _ _ rfl HK76.out Tryz.underlying45 rfl (by kernel_rfl)) ?_))
      have hfin:=z0j l
      simp only [Q3.out,NF29.out,TF44.out,Q53.out,TF70.out,if_true] at hfin
      rw [hfin]
      exact ⟨rfl,HP74.out,HB75.out⟩
     | false =>
      have TF77 : Hid (z0s [41] (((r21).tail).tail) = .error (170,z1q (((r21).tail).tail))):=by rw [Hid,z0s,q68]; rfl
      refine (z1u pb tb deep _ ((r21).tail).tail ⟨#[41]⟩ (by decide) _ (HP66.out.alloc (.cells #[.string ⟨#[41]⟩] 9)) (z0b (by simp [World.setCell])) q68).mono ?_
      rintro e w78 ⟨rfl,hb80⟩
      have hb80:=((BtP.refl pb (w54.setCell ⟨w.heap.size,4,none⟩ (.bool true))).alloc (.cells #[.string ⟨#[41]⟩] 9)).trans hb80
      clear q68
      have HE81:=Jh (HB67.out.trans hb80)
      clear hb80
      go_wp2_with fail
      refine ⟨rfl,?_⟩
      have hfin:=z0j l
      simp only [Q3.out,NF29.out,TF44.out,Q53.out,TF77.out,if_true] at hfin
      rw [hfin]
      exact ⟨rfl,HE81.out⟩
    | false =>
     have Q82:=Jh q52
     rw [q52] at HM51
     simp only [Bool.false_eq_true,if_false] at HM51
     clear q52
     refine HM51.out.mono ?_
     rintro e w83 ⟨rfl,hp84,hb85⟩
     have HP86:=Jh hp84
     have HB87:=Jh (HB49.out.trans hb85)
     have HK88:=Jh (hb85.at HK50.out (by omega))
     clear hp84 hb85
     have hk89:=HK88.out
     have e90:=Jc hk89 4
     have f91:=Jf hk89 4
     have lt92:=(Array.getElem?_eq_some_iff.1 hk89).1
     have HK94 : Hid ((w83.setCell ⟨w.heap.size,4,none⟩ (.bool false)).heap[w.heap.size]? = some (.cells #[.int .i64 D30,.bool true,.int .i64 0,.bool false,.bool false] 45 (0,0))):=z0l hk89 4 _
     have g93:=Jc HK94.out 4
     simp only [J9,J7,J8] at e90 g93
     have HP95:=Jh (HP86.out.setCell (g:=w.heap.size) (by omega) htb 4 (.bool false))
     have HB96:=Jh (HB87.out.setCell (Nat.le_refl _) 4 (.bool false))
     clear hk89
     go_wp2_with fail
     obtain ⟨⟨tk97,ts98,tp99⟩,r100,hl101⟩:=HP95.out.ends.cons
     have HX102 : Hid (Ps pb tb (w83.setCell ⟨w.heap.size,4,none⟩ (.bool false)) (⟨tk97,ts98,tp99⟩ :: r100) deep):=Jh (by have:=HP95.out; rw [hl101] at this; exact this)
     have HL103:=Jh hl101
     clear hl101
     by_cases q104 : tk97 = 2
     ·subst q104
      have NF108 : Hid (numR ((r21).tail) = .ok (z2o ts98.data.toList,r100)):=by rw [Hid,HL103.out]; rfl
      refine (z4a pb tb deep ts98 tp99 r100 _ HX102.out).mono ?_
      rintro e w105 ⟨rfl,hp106,hb107⟩
      have HP110:=Jh hp106
      have HB111:=Jh (HB96.out.trans hb107)
      have HK112:=Jh (hb107.at HK94.out (by omega))
      clear hp106 hb107
      generalize D109E : z2o ts98.data.toList = D109 at NF108 ⊢
      clear D109E
      have hk113:=HK112.out
      have e114:=Jc hk113 2
      have f115:=Jf hk113 2
      have lt116:=(Array.getElem?_eq_some_iff.1 hk113).1
      have HK118 : Hid ((w105.setCell ⟨w.heap.size,2,none⟩ (.int .i64 D109)).heap[w.heap.size]? = some (.cells #[.int .i64 D30,.bool true,.int .i64 D109,.bool false,.bool false] 45 (0,0))):=z0l hk113 2 _
      have g117:=Jc HK118.out 2
      simp only [J9,J7,J8] at e114 g117
      have HP119:=Jh (HP110.out.setCell (g:=w.heap.size) (by omega) htb 2 (.int .i64 D109))
      have HB120:=Jh (HB111.out.setCell (Nat.le_refl _) 2 (.int .i64 D109))
      clear hk113
      go_wp2_with fail
      have HM121:=Jh (z1i pb tb deep r100 ⟨#[41]⟩ (by decide) _ HP119.out)
      have HM121 : Hid (Calls Tryz.prog 227 #[.pointer (some ⟨pb,0,none⟩),.string ⟨#[41]⟩] (w105.setCell ⟨w.heap.size,2,none⟩ (.int .i64 D109)) fun e w' => e = .returned (.bool (isT [41] r100)) ∧ Ps pb tb w' (if isT [41] r100 then (r100).tail else r100) deep ∧ BtP pb (w105.setCell ⟨w.heap.size,2,none⟩ (.int .i64 D109)) w'):=HM121
      cases q122 : isT [41] r100 with
      | true =>
       have Q123:=Jh q122
       rw [q122] at HM121
       simp only [if_true] at HM121
       clear q122
       refine HM121.out.mono ?_
       rintro e w124 ⟨rfl,hp125,hb126⟩
       have HP127:=Jh hp125
       have HB128:=Jh (HB120.out.trans hb126)
       have HK129:=Jh (hb126.at HK118.out (by omega))
       clear hp125 hb126
       have hk130:=HK129.out
       have e131:=Jc hk130 3
       have f132:=Jf hk130 3
       have lt133:=(Array.getElem?_eq_some_iff.1 hk130).1
       have HK135 : Hid ((w124.setCell ⟨w.heap.size,3,none⟩ (.bool true)).heap[w.heap.size]? = some (.cells #[.int .i64 D30,.bool true,.int .i64 D109,.bool true,.bool false] 45 (0,0))):=z0l hk130 3 _
       have g134:=Jc HK135.out 3
       simp only [J9,J7,J8] at e131 g134
       have HP136:=Jh (HP127.out.setCell (g:=w.heap.size) (by omega) htb 3 (.bool true))
       have HB137:=Jh (HB128.out.setCell (Nat.le_refl _) 3 (.bool true))
       clear hk130
       go_wp2_with fail
       first | refine bodyPost_ret (results_cell_row rfl _ _ _ _ _ _ _ rfl HK135.out Tryz.underlying45 rfl (by kernel_rfl)) rfl ?_ | refine And.intro rfl (Exists.intro _ (And.intro (results_cell_row rfl _ _ _ _ _ _ _ rfl HK135.out Tryz.underlying45 rfl (by kernel_rfl)) ?_))
       have hfin:=z0j l
       simp only [Q3.out,NF29.out,TF44.out,Q82.out,NF108.out,Q123.out,if_true,if_false,Bool.false_eq_true] at hfin
       rw [hfin]
       exact ⟨rfl,HP136.out,HB137.out⟩
      | false =>
       have Q138:=Jh q122
       rw [q122] at HM121
       simp only [Bool.false_eq_true,if_false] at HM121
       clear q122
       refine HM121.out.mono ?_
       rintro e w139 ⟨rfl,hp140,hb141⟩
       have HP142:=Jh hp140
       have HB143:=Jh (HB120.out.trans hb141)
       have HK144:=Jh (hb141.at HK118.out (by omega))
       clear hp140 hb141
       have hk145:=HK144.out
       have e146:=Jc hk145 3
       have f147:=Jf hk145 3
       have lt148:=(Array.getElem?_eq_some_iff.1 hk145).1
       have HK150 : Hid ((w139.setCell ⟨w.heap.size,3,none⟩ (.bool false)).heap[w.heap.size]? = some (.cells #[.int .i64 D30,.bool true,.int .i64 D109,.bool false,.bool false] 45 (0,0))):=z0l hk145 3 _
       have g149:=Jc HK150.out 3
       simp only [J9,J7,J8] at e146 g149
       have HP151:=Jh (HP142.out.setCell (g:=w.heap.size) (by omega) htb 3 (.bool false))
       have HB152:=Jh (HB143.out.setCell (Nat.le_refl _) 3 (.bool false))
       clear hk145
       go_wp2_with fail
       cases q153 : isT [93] r100 with
       | true =>
        have TF155 : Hid (z0s [93] (r100) = .ok (r100).tail):=by rw [Hid,z0s,q153]; rfl
        refine (z1t pb tb deep _ r100 ⟨#[93]⟩ (by decide) _ (HP151.out.alloc (.cells #[.string ⟨#[93]⟩] 9)) (z0b (by simp [World.setCell])) q153).mono ?_
        rintro e w156 ⟨rfl,hp157,hb158⟩
        have hb158:=((BtP.refl pb (w139.setCell ⟨w.heap.size,3,none⟩ (.bool false))).alloc (.cells #[.string ⟨#[93]⟩] 9)).trans hb158
        clear q153
        have HP159:=Jh hp157
        have HB160:=Jh (HB152.out.trans hb158)
        have HK161:=Jh (hb158.at HK150.out (by omega))
        clear hp157 hb158
        go_wp2_with fail
        first | refine bodyPost_ret (results_cell_row rfl _ _ _ _ _ _ _ rfl HK161.out Tryz.underlying45 rfl (by kernel_rfl)) rfl ?_ | refine And.intro rfl (Exists.intro _ (And.intro (results_cell_row rfl _ _ _ _ _ _ _ rfl HK161.out Tryz.underlying45 rfl (by kernel_rfl)) ?_))
        have hfin:=z0j l
        simp only [Q3.out,NF29.out,TF44.out,Q82.out,NF108.out,Q138.out,TF155.out,if_true,if_false,Bool.false_eq_true] at hfin
        rw [hfin]
        exact ⟨rfl,HP159.out,HB160.out⟩
       | false =>
        have TF162 : Hid (z0s [93] (r100) = .error (170,z1q (r100))):=by rw [Hid,z0s,q153]; rfl
        refine (z1u pb tb deep _ r100 ⟨#[93]⟩ (by decide) _ (HP151.out.alloc (.cells #[.string ⟨#[93]⟩] 9)) (z0b (by simp [World.setCell])) q153).mono ?_
        rintro e w163 ⟨rfl,hb165⟩
        have hb165:=((BtP.refl pb (w139.setCell ⟨w.heap.size,3,none⟩ (.bool false))).alloc (.cells #[.string ⟨#[93]⟩] 9)).trans hb165
        clear q153
        have HE166:=Jh (HB152.out.trans hb165)
        clear hb165
        go_wp2_with fail
        refine ⟨rfl,?_⟩
        have hfin:=z0j l
        simp only [Q3.out,NF29.out,TF44.out,Q82.out,NF108.out,Q138.out,TF162.out,if_true,if_false,Bool.false_eq_true] at hfin
        rw [hfin]
        exact ⟨rfl,HE166.out⟩
     ·have NF108 : Hid (numR ((r21).tail) = .error (170,tp99)):=by rw [Hid,HL103.out]; simp only [numR,q104,if_false,z7v,z1q]
      refine (z4b pb tb deep tk97 ts98 tp99 r100 _ HX102.out q104).mono ?_
      rintro e w105 ⟨rfl,hb107⟩
      have HE167:=Jh (HB96.out.trans hb107)
      clear hb107
      go_wp2_with fail
      refine ⟨rfl,?_⟩
      have hfin:=z0j l
      simp only [Q3.out,NF29.out,TF44.out,Q82.out,NF108.out,if_true,if_false,Bool.false_eq_true] at hfin
      rw [hfin]
      exact ⟨rfl,HE167.out⟩
   | false =>
    have TF168 : Hid (z0s [44] (r21) = .error (170,z1q (r21))):=by rw [Hid,z0s,q42]; rfl
    refine (z1u pb tb deep _ r21 ⟨#[44]⟩ (by decide) _ (HP40.out.alloc (.cells #[.string ⟨#[44]⟩] 9)) (z0b (by simp [World.setCell])) q42).mono ?_
    rintro e w169 ⟨rfl,hb171⟩
    have hb171:=((BtP.refl pb (w26.setCell ⟨w.heap.size,0,none⟩ (.int .i64 D30))).alloc (.cells #[.string ⟨#[44]⟩] 9)).trans hb171
    clear q42
    have HE172:=Jh (HB41.out.trans hb171)
    clear hb171
    go_wp2_with fail
    refine ⟨rfl,?_⟩
    have hfin:=z0j l
    simp only [Q3.out,NF29.out,TF168.out,if_true] at hfin
    rw [hfin]
    exact ⟨rfl,HE172.out⟩
  ·have NF29 : Hid (numR ((l).tail) = .error (170,tp20)):=by rw [Hid,HL24.out]; simp only [numR,q25,if_false,z7v,z1q]
   refine (z4b pb tb deep tk18 ts19 tp20 r21 _ HX23.out q25).mono ?_
   rintro e w26 ⟨rfl,hb28⟩
   have HE173:=Jh (HB17.out.trans hb28)
   clear hb28
   go_wp2_with fail
   refine ⟨rfl,?_⟩
   have hfin:=z0j l
   simp only [Q3.out,NF29.out,if_true] at hfin
   rw [hfin]
   exact ⟨rfl,HE173.out⟩
 | false =>
  have Q174:=Jh q2
  rw [q2] at HM1
  simp only [Bool.false_eq_true,if_false] at HM1
  clear q2
  refine HM1.out.mono ?_
  rintro e w175 ⟨rfl,hp176,hb177⟩
  have HP178:=Jh hp176
  have HB179:=Jh (HB0.out.trans hb177)
  have HK180:=Jh (hb177.at HK0.out (by omega))
  clear hp176 hb177
  have hk181:=HK180.out
  have e182:=Jc hk181 1
  have f183:=Jf hk181 1
  have lt184:=(Array.getElem?_eq_some_iff.1 hk181).1
  have HK186 : Hid ((w175.setCell ⟨w.heap.size,1,none⟩ (.bool false)).heap[w.heap.size]? = some (.cells #[.int .i64 0,.bool false,.int .i64 0,.bool false,.bool false] 45 (0,0))):=z0l hk181 1 _
  have g185:=Jc HK186.out 1
  simp only [J9,J7,J8] at e182 g185
  have HP187:=Jh (HP178.out.setCell (g:=w.heap.size) (by omega) htb 1 (.bool false))
  have HB188:=Jh (HB179.out.setCell (Nat.le_refl _) 1 (.bool false))
  clear hk181
  go_wp2_with fail
  cases q189 : isT [91] l with
  | true =>
   have TF191 : Hid (z0s [91] (l) = .ok (l).tail):=by rw [Hid,z0s,q189]; rfl
   refine (z1t pb tb deep _ l ⟨#[91]⟩ (by decide) _ (HP187.out.alloc (.cells #[.string ⟨#[91]⟩] 9)) (z0b (by simp [World.setCell])) q189).mono ?_
   rintro e w192 ⟨rfl,hp193,hb194⟩
   have hb194:=((BtP.refl pb (w175.setCell ⟨w.heap.size,1,none⟩ (.bool false))).alloc (.cells #[.string ⟨#[91]⟩] 9)).trans hb194
   clear q189
   have HP195:=Jh hp193
   have HB196:=Jh (HB188.out.trans hb194)
   have HK197:=Jh (hb194.at HK186.out (by omega))
   clear hp193 hb194
   go_wp2_with fail
   obtain ⟨⟨tk198,ts199,tp200⟩,r201,hl202⟩:=HP195.out.ends.cons
   have HX203 : Hid (Ps pb tb w192 (⟨tk198,ts199,tp200⟩ :: r201) deep):=Jh (by have:=HP195.out; rw [hl202] at this; exact this)
   have HL204:=Jh hl202
   clear hl202
   by_cases q205 : tk198 = 2
   ·subst q205
    have NF209 : Hid (numR ((l).tail) = .ok (z2o ts199.data.toList,r201)):=by rw [Hid,HL204.out]; rfl
    refine (z4a pb tb deep ts199 tp200 r201 _ HX203.out).mono ?_
    rintro e w206 ⟨rfl,hp207,hb208⟩
    have HP211:=Jh hp207
    have HB212:=Jh (HB196.out.trans hb208)
    have HK213:=Jh (hb208.at HK197.out (by omega))
    clear hp207 hb208
    generalize D210E : z2o ts199.data.toList = D210 at NF209 ⊢
    clear D210E
    have hk214:=HK213.out
    have e215:=Jc hk214 0
    have f216:=Jf hk214 0
    have lt217:=(Array.getElem?_eq_some_iff.1 hk214).1
    have HK219 : Hid ((w206.setCell ⟨w.heap.size,0,none⟩ (.int .i64 D210)).heap[w.heap.size]? = some (.cells #[.int .i64 D210,.bool false,.int .i64 0,.bool false,.bool false] 45 (0,0))):=z0l hk214 0 _
    have g218:=Jc HK219.out 0
    simp only [J9,J7] at e215 g218
    have HP220:=Jh (HP211.out.setCell (g:=w.heap.size) (by omega) htb 0 (.int .i64 D210))
    have HB221:=Jh (HB212.out.setCell (Nat.le_refl _) 0 (.int .i64 D210))
    clear hk214
    go_wp2_with fail
    cases q222 : isT [44] r201 with
    | true =>
     have TF224 : Hid (z0s [44] (r201) = .ok (r201).tail):=by rw [Hid,z0s,q222]; rfl
     refine (z1t pb tb deep _ r201 ⟨#[44]⟩ (by decide) _ (HP220.out.alloc (.cells #[.string ⟨#[44]⟩] 9)) (z0b (by simp [World.setCell])) q222).mono ?_
     rintro e w225 ⟨rfl,hp226,hb227⟩
     have hb227:=((BtP.refl pb (w206.setCell ⟨w.heap.size,0,none⟩ (.int .i64 D210))).alloc (.cells #[.string ⟨#[44]⟩] 9)).trans hb227
     clear q222
     have HP228:=Jh hp226
     have HB229:=Jh (HB221.out.trans hb227)
     have HK230:=Jh (hb227.at HK219.out (by omega))
     clear hp226 hb227
     go_wp2_with fail
     have HM231:=Jh (z1i pb tb deep (r201).tail ⟨#[111,111]⟩ (by decide) _ HP228.out)
     have HM231 : Hid (Calls Tryz.prog 227 #[.pointer (some ⟨pb,0,none⟩),.string ⟨#[111,111]⟩] w225 fun e w' => e = .returned (.bool (isT [111,111] (r201).tail)) ∧ Ps pb tb w' (if isT [111,111] (r201).tail then ((r201).tail).tail else (r201).tail) deep ∧ BtP pb w225 w'):=HM231
     cases q232 : isT [111,111] (r201).tail with
     | true =>
      have Q233:=Jh q232
      rw [q232] at HM231
      simp only [if_true] at HM231
      clear q232
      refine HM231.out.mono ?_
      rintro e w234 ⟨rfl,hp235,hb236⟩
      have HP237:=Jh hp235
      have HB238:=Jh (HB229.out.trans hb236)
      have HK239:=Jh (hb236.at HK230.out (by omega))
      clear hp235 hb236
      have hk240:=HK239.out
      have e241:=Jc hk240 4
      have f242:=Jf hk240 4
      have lt243:=(Array.getElem?_eq_some_iff.1 hk240).1
      have HK245 : Hid ((w234.setCell ⟨w.heap.size,4,none⟩ (.bool true)).heap[w.heap.size]? = some (.cells #[.int .i64 D210,.bool false,.int .i64 0,.bool false,.bool true] 45 (0,0))):=z0l hk240 4 _
      have g244:=Jc HK245.out 4
      simp only [J9,J7,J8] at e241 g244
      have HP246:=Jh (HP237.out.setCell (g:=w.heap.size) (by omega) htb 4 (.bool true))
      have HB247:=Jh (HB238.out.setCell (Nat.le_refl _) 4 (.bool true))
      clear hk240
      go_wp2_with fail
      cases q248 : isT [41] ((r201).tail).tail with
      | true =>
       have TF250 : Hid (z0s [41] (((r201).tail).tail) = .ok (((r201).tail).tail).tail):=by rw [Hid,z0s,q248]; rfl
       refine (z1t pb tb deep _ ((r201).tail).tail ⟨#[41]⟩ (by decide) _ (HP246.out.alloc (.cells #[.string ⟨#[41]⟩] 9)) (z0b (by simp [World.setCell])) q248).mono ?_
       rintro e w251 ⟨rfl,hp252,hb253⟩
       have hb253:=((BtP.refl pb (w234.setCell ⟨w.heap.size,4,none⟩ (.bool true))).alloc (.cells #[.string ⟨#[41]⟩] 9)).trans hb253
       clear q248
       have HP254:=Jh hp252
       have HB255:=Jh (HB247.out.trans hb253)
       have HK256:=Jh (hb253.at HK245.out (by omega))
       clear hp252 hb253
       go_wp2_with fail
       first | refine bodyPost_ret (results_cell_row rfl _ _ _ _ _ _ _ rfl HK256.out Tryz.underlying45 rfl (by kernel_rfl)) rfl ?_ | refine And.intro rfl (Exists.intro _ (And.intro (results_cell_row rfl _ _ _ _ _ _ _ rfl HK256.out Tryz.underlying45 rfl (by kernel_rfl)) ?_))
       have hfin:=z0j l
       simp only [Q174.out,TF191.out,NF209.out,TF224.out,Q233.out,TF250.out,if_true,if_false,Bool.false_eq_true] at hfin
       rw [hfin]
       exact ⟨rfl,HP254.out,HB255.out⟩
      | false =>
       have TF257 : Hid (z0s [41] (((r201).tail).tail) = .error (170,z1q (((r201).tail).tail))):=by rw [Hid,z0s,q248]; rfl
       refine (z1u pb tb deep _ ((r201).tail).tail ⟨#[41]⟩ (by decide) _ (HP246.out.alloc (.cells #[.string ⟨#[41]⟩] 9)) (z0b (by simp [World.setCell])) q248).mono ?_
       rintro e w258 ⟨rfl,hb260⟩
       have hb260:=((BtP.refl pb (w234.setCell ⟨w.heap.size,4,none⟩ (.bool true))).alloc (.cells #[.string ⟨#[41]⟩] 9)).trans hb260
       clear q248
       have HE261:=Jh (HB247.out.trans hb260)
       clear hb260
       go_wp2_with fail
       refine ⟨rfl,?_⟩
       have hfin:=z0j l
       simp only [Q174.out,TF191.out,NF209.out,TF224.out,Q233.out,TF257.out,if_true,if_false,Bool.false_eq_true] at hfin
       rw [hfin]
       exact ⟨rfl,HE261.out⟩
     | false =>
      have Q262:=Jh q232
      rw [q232] at HM231
      simp only [Bool.false_eq_true,if_false] at HM231
      clear q232
      refine HM231.out.mono ?_
      rintro e w263 ⟨rfl,hp264,hb265⟩
      have HP266:=Jh hp264
      have HB267:=Jh (HB229.out.trans hb265)
      have HK268:=Jh (hb265.at HK230.out (by omega))
      clear hp264 hb265
      have hk269:=HK268.out
      have e270:=Jc hk269 4
      have f271:=Jf hk269 4
      have lt272:=(Array.getElem?_eq_some_iff.1 hk269).1
      have HK274 : Hid ((w263.setCell ⟨w.heap.size,4,none⟩ (.bool false)).heap[w.heap.size]? = some (.cells #[.int .i64 D210,.bool false,.int .i64 0,.bool false,.bool false] 45 (0,0))):=z0l hk269 4 _
      have g273:=Jc HK274.out 4
      simp only [J9,J7,J8] at e270 g273
      have HP275:=Jh (HP266.out.setCell (g:=w.heap.size) (by omega) htb 4 (.bool false))
      have HB276:=Jh (HB267.out.setCell (Nat.le_refl _) 4 (.bool false))
      clear hk269
      go_wp2_with fail
      obtain ⟨⟨tk277,ts278,tp279⟩,r280,hl281⟩:=HP275.out.ends.cons
      have HX282 : Hid (Ps pb tb (w263.setCell ⟨w.heap.size,4,none⟩ (.bool false)) (⟨tk277,ts278,tp279⟩ :: r280) deep):=Jh (by have:=HP275.out; rw [hl281] at this; exact this)
      have HL283:=Jh hl281
      clear hl281
      by_cases q284 : tk277 = 2
      ·subst q284
       have NF288 : Hid (numR ((r201).tail) = .ok (z2o ts278.data.toList,r280)):=by rw [Hid,HL283.out]; rfl
       refine (z4a pb tb deep ts278 tp279 r280 _ HX282.out).mono ?_
       rintro e w285 ⟨rfl,hp286,hb287⟩
       have HP290:=Jh hp286
       have HB291:=Jh (HB276.out.trans hb287)
       have HK292:=Jh (hb287.at HK274.out (by omega))
       clear hp286 hb287
       generalize D289E : z2o ts278.data.toList = D289 at NF288 ⊢
       clear D289E
       have hk293:=HK292.out
       have e294:=Jc hk293 2
       have f295:=Jf hk293 2
       have lt296:=(Array.getElem?_eq_some_iff.1 hk293).1
       have HK298 : Hid ((w285.setCell ⟨w.heap.size,2,none⟩ (.int .i64 D289)).heap[w.heap.size]? = some (.cells #[.int .i64 D210,.bool false,.int .i64 D289,.bool false,.bool false] 45 (0,0))):=z0l hk293 2 _
       have g297:=Jc HK298.out 2
       simp only [J9,J7,J8] at e294 g297
       have HP299:=Jh (HP290.out.setCell (g:=w.heap.size) (by omega) htb 2 (.int .i64 D289))
       have HB300:=Jh (HB291.out.setCell (Nat.le_refl _) 2 (.int .i64 D289))
       clear hk293
       go_wp2_with fail
       have HM301:=Jh (z1i pb tb deep r280 ⟨#[41]⟩ (by decide) _ HP299.out)
       have HM301 : Hid (Calls Tryz.prog 227 #[.pointer (some ⟨pb,0,none⟩),.string ⟨#[41]⟩] (w285.setCell ⟨w.heap.size,2,none⟩ (.int .i64 D289)) fun e w' => e = .returned (.bool (isT [41] r280)) ∧ Ps pb tb w' (if isT [41] r280 then (r280).tail else r280) deep ∧ BtP pb (w285.setCell ⟨w.heap.size,2,none⟩ (.int .i64 D289)) w'):=HM301
       cases q302 : isT [41] r280 with
       | true =>
        have Q303:=Jh q302
        rw [q302] at HM301
        simp only [if_true] at HM301
        clear q302
        refine HM301.out.mono ?_
        rintro e w304 ⟨rfl,hp305,hb306⟩
        have HP307:=Jh hp305
        have HB308:=Jh (HB300.out.trans hb306)
        have HK309:=Jh (hb306.at HK298.out (by omega))
        clear hp305 hb306
        have hk310:=HK309.out
        have e311:=Jc hk310 3
        have f312:=Jf hk310 3
        have lt313:=(Array.getElem?_eq_some_iff.1 hk310).1
        have HK315 : Hid ((w304.setCell ⟨w.heap.size,3,none⟩ (.bool true)).heap[w.heap.size]? = some (.cells #[.int .i64 D210,.bool false,.int .i64 D289,.bool true,.bool false] 45 (0,0))):=z0l hk310 3 _
        have g314:=Jc HK315.out 3
        simp only [J9,J7,J8] at e311 g314
        have HP316:=Jh (HP307.out.setCell (g:=w.heap.size) (by omega) htb 3 (.bool true))
        have HB317:=Jh (HB308.out.setCell (Nat.le_refl _) 3 (.bool true))
        clear hk310
        go_wp2_with fail
        first | refine bodyPost_ret (results_cell_row rfl _ _ _ _ _ _ _ rfl HK315.out Tryz.underlying45 rfl (by kernel_rfl)) rfl ?_ | refine And.intro rfl (Exists.intro _ (And.intro (results_cell_row rfl _ _ _ _ _ _ _ rfl HK315.out Tryz.underlying45 rfl (by kernel_rfl)) ?_))
        have hfin:=z0j l
        simp only [Q174.out,TF191.out,NF209.out,TF224.out,Q262.out,NF288.out,Q303.out,if_true,if_false,Bool.false_eq_true] at hfin
        rw [hfin]
        exact ⟨rfl,HP316.out,HB317.out⟩
       | false =>
        have Q318:=Jh q302
        rw [q302] at HM301
        simp only [Bool.false_eq_true,if_false] at HM301
        clear q302
        refine HM301.out.mono ?_
        rintro e w319 ⟨rfl,hp320,hb321⟩
        have HP322:=Jh hp320
        have HB323:=Jh (HB300.out.trans hb321)
        have HK324:=Jh (hb321.at HK298.out (by omega))
        clear hp320 hb321
        have hk325:=HK324.out
        have e326:=Jc hk325 3
        have f327:=Jf hk325 3
        have lt328:=(Array.getElem?_eq_some_iff.1 hk325).1
        have HK330 : Hid ((w319.setCell ⟨w.heap.size,3,none⟩ (.bool false)).heap[w.heap.size]? = some (.cells #[.int .i64 D210,.bool false,.int .i64 D289,.bool false,.bool false] 45 (0,0))):=z0l hk325 3 _
        have g329:=Jc HK330.out 3
        simp only [J9,J7,J8] at e326 g329
        have HP331:=Jh (HP322.out.setCell (g:=w.heap.size) (by omega) htb 3 (.bool false))
        have HB332:=Jh (HB323.out.setCell (Nat.le_refl _) 3 (.bool false))
        clear hk325
        go_wp2_with fail
        cases q333 : isT [93] r280 with
        | true =>
         have TF335 : Hid (z0s [93] (r280) = .ok (r280).tail):=by rw [Hid,z0s,q333]; rfl
         refine (z1t pb tb deep _ r280 ⟨#[93]⟩ (by decide) _ (HP331.out.alloc (.cells #[.string ⟨#[93]⟩] 9)) (z0b (by simp [World.setCell])) q333).mono ?_
         rintro e w336 ⟨rfl,hp337,hb338⟩
         have hb338:=((BtP.refl pb (w319.setCell ⟨w.heap.size,3,none⟩ (.bool false))).alloc (.cells #[.string ⟨#[93]⟩] 9)).trans hb338
         clear q333
         have HP339:=Jh hp337
         have HB340:=Jh (HB332.out.trans hb338)
         have HK341:=Jh (hb338.at HK330.out (by omega))
         clear hp337 hb338
         go_wp2_with fail
         first | refine bodyPost_ret (results_cell_row rfl _ _ _ _ _ _ _ rfl HK341.out Tryz.underlying45 rfl (by kernel_rfl)) rfl ?_ | refine And.intro rfl (Exists.intro _ (And.intro (results_cell_row rfl _ _ _ _ _ _ _ rfl HK341.out Tryz.underlying45 rfl (by kernel_rfl)) ?_))
         have hfin:=z0j l
         simp only [Q174.out,TF191.out,NF209.out,TF224.out,Q262.out,NF288.out,Q318.out,TF335.out,if_false,Bool.false_eq_true] at hfin
         rw [hfin]
         exact ⟨rfl,HP339.out,HB340.out⟩
        | false =>
         have TF342 : Hid (z0s [93] (r280) = .error (170,z1q (r280))):=by rw [Hid,z0s,q333]; rfl
         refine (z1u pb tb deep _ r280 ⟨#[93]⟩ (by decide) _ (HP331.out.alloc (.cells #[.string ⟨#[93]⟩] 9)) (z0b (by simp [World.setCell])) q333).mono ?_
         rintro e w343 ⟨rfl,hb345⟩
         have hb345:=((BtP.refl pb (w319.setCell ⟨w.heap.size,3,none⟩ (.bool false))).alloc (.cells #[.string ⟨#[93]⟩] 9)).trans hb345
         clear q333
         have HE346:=Jh (HB332.out.trans hb345)
         clear hb345
         go_wp2_with fail
         refine ⟨rfl,?_⟩
         have hfin:=z0j l
         simp only [Q174.out,TF191.out,NF209.out,TF224.out,Q262.out,NF288.out,Q318.out,TF342.out,if_false,Bool.false_eq_true] at hfin
         rw [hfin]
         exact ⟨rfl,HE346.out⟩
      ·have NF288 : Hid (numR ((r201).tail) = .error (170,tp279)):=by rw [Hid,HL283.out]; simp only [numR,q284,if_false,z7v,z1q]
       refine (z4b pb tb deep tk277 ts278 tp279 r280 _ HX282.out q284).mono ?_
       rintro e w285 ⟨rfl,hb287⟩
       have HE347:=Jh (HB276.out.trans hb287)
       clear hb287
       go_wp2_with fail
       refine ⟨rfl,?_⟩
       have hfin:=z0j l
       simp only [Q174.out,TF191.out,NF209.out,TF224.out,Q262.out,NF288.out,if_false,Bool.false_eq_true] at hfin
       rw [hfin]
       exact ⟨rfl,HE347.out⟩
    | false =>
     have TF348 : Hid (z0s [44] (r201) = .error (170,z1q (r201))):=by rw [Hid,z0s,q222]; rfl
     refine (z1u pb tb deep _ r201 ⟨#[44]⟩ (by decide) _ (HP220.out.alloc (.cells #[.string ⟨#[44]⟩] 9)) (z0b (by simp [World.setCell])) q222).mono ?_
     rintro e w349 ⟨rfl,hb351⟩
     have hb351:=((BtP.refl pb (w206.setCell ⟨w.heap.size,0,none⟩ (.int .i64 D210))).alloc (.cells #[.string ⟨#[44]⟩] 9)).trans hb351
     clear q222
     have HE352:=Jh (HB221.out.trans hb351)
     clear hb351
     go_wp2_with fail
     refine ⟨rfl,?_⟩
     have hfin:=z0j l
     simp only [Q174.out,TF191.out,NF209.out,TF348.out,if_false,Bool.false_eq_true] at hfin
     rw [hfin]
     exact ⟨rfl,HE352.out⟩
   ·have NF209 : Hid (numR ((l).tail) = .error (170,tp200)):=by rw [Hid,HL204.out]; simp only [numR,q205,if_false,z7v,z1q]
    refine (z4b pb tb deep tk198 ts199 tp200 r201 _ HX203.out q205).mono ?_
    rintro e w206 ⟨rfl,hb208⟩
    have HE353:=Jh (HB196.out.trans hb208)
    clear hb208
    go_wp2_with fail
    refine ⟨rfl,?_⟩
    have hfin:=z0j l
    simp only [Q174.out,TF191.out,NF209.out,if_false,Bool.false_eq_true] at hfin
    rw [hfin]
    exact ⟨rfl,HE353.out⟩
  | false =>
   have TF354 : Hid (z0s [91] (l) = .error (170,z1q (l))):=by rw [Hid,z0s,q189]; rfl
   refine (z1u pb tb deep _ l ⟨#[91]⟩ (by decide) _ (HP187.out.alloc (.cells #[.string ⟨#[91]⟩] 9)) (z0b (by simp [World.setCell])) q189).mono ?_
   rintro e w355 ⟨rfl,hb357⟩
   have hb357:=((BtP.refl pb (w175.setCell ⟨w.heap.size,1,none⟩ (.bool false))).alloc (.cells #[.string ⟨#[91]⟩] 9)).trans hb357
   clear q189
   have HE358:=Jh (HB188.out.trans hb357)
   clear hb357
   go_wp2_with fail
   refine ⟨rfl,?_⟩
   have hfin:=z0j l
   simp only [Q174.out,TF354.out,if_false,Bool.false_eq_true] at hfin
   rw [hfin]
   exact ⟨rfl,HE358.out⟩
end Go.Proofs.YtockinpjfhhkoaaGreatDoor
