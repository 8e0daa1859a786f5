/- The parser walked: is, may, take. -/
import Derived.Test.YtockinpjfhhkoaaGreatDoorZ07
import Derived.Shelf.Strconv.Atoi
set_option maxRecDepth 100000
set_option maxHeartbeats 16000000
open Go.Lib renaming cell_of_heap → Jc, hid → Jh
namespace Go.Proofs.YtockinpjfhhkoaaGreatDoor
open Go.RowKit
theorem isT_cons (s : List UInt8) (k : Int) (t : ByteArray) (pl : Int) (r : List Tok) : isT s (⟨k,t,pl⟩ :: r) = (k != 2 && t.data.toList == s):=rfl
theorem z3y (pb tb deep : Nat) (l : List Tok) (s : ByteArray) (w : World) (h : Ps pb tb w l deep) :
 Calls Tryz.prog 244 #[.pointer (some ⟨pb,0,none⟩),.string s] w fun e w' => e = .returned (.bool (isT s.data.toList l)) ∧ Below w.heap.size w w':=by
 obtain ⟨⟨k,t,pl⟩,r,rfl⟩:=h.ends.cons
 rw [isT_cons]
 have HN:=Jh (z3q pb tb deep k t pl r w h)
 have HN2 : Hid (∀ W,Below w.heap.size w W → Calls Tryz.prog 202 #[.pointer (some ⟨pb,0,none⟩)] W fun e w' => e = .returned (.agg #[.int .u8 k,.string t,.int .i64 pl]) ∧ Below W.heap.size W w') :=
  fun W hb => z3q pb tb deep k t pl r W (h.below hb)
 have hf0:=fun W => (fld51 (.int .u8 k) (.string t) (.int .i64 pl) W).1
 have hf1:=fun W => (fld51 (.int .u8 k) (.string t) (.int .i64 pl) W).2.1
 have HE : Hid ((t.toList == s.toList) = (t.data.toList == s.data.toList)):=by rw [Hid,ByteArray.toList_eq,ByteArray.toList_eq]
 clear h
 cases q : k != 2 with
 | false =>
  go_enter Tryz.func244,Tryz.ntmps244
  go_wp2_with fail
  refine HN.out.mono ?_
  rintro e w1 ⟨rfl,hb⟩
  have HB:=Jh hb
  clear hb
  go_wp2_with fail
  all_goals go_ret
  all_goals exact ⟨rfl,HB.out⟩
 | true =>
  go_enter Tryz.func244,Tryz.ntmps244
  go_wp2_with fail
  refine HN.out.mono ?_
  rintro e w1 ⟨rfl,hb⟩
  have HB:=Jh hb
  clear hb
  go_wp2_with fail
  refine (HN2.out _ HB.out).mono ?_
  rintro e w2 ⟨rfl,hb⟩
  have HB2:=Jh (HB.out.trans (hb.mono HB.out.size))
  clear hb
  go_wp2_with fail
  all_goals go_ret
  all_goals exact ⟨z02 (by rw [HE.out]; rfl),HB2.out⟩
theorem Ps.tail_ends {pb tb deep : Nat} {w : World} {k : Int} {t : ByteArray} {pl : Int} {r : List Tok} (h : Ps pb tb w (⟨k,t,pl⟩ :: r) deep) {s : List UInt8} (hs : s ≠ []) (hi : isT s (⟨k,t,pl⟩ :: r) = true) : Ends r:=by
 rw [isT_cons,Bool.and_eq_true,beq_iff_eq] at hi
 exact h.ends.tail (.inr (by rw [hi.2]; exact hs))
theorem z1i (pb tb deep : Nat) (l : List Tok) (s : ByteArray) (hs : s.data.toList ≠ []) (w : World) (h : Ps pb tb w l deep) :
 Calls Tryz.prog 227 #[.pointer (some ⟨pb,0,none⟩),.string s] w fun e w' => e = .returned (.bool (isT s.data.toList l)) ∧ Ps pb tb w' (if isT s.data.toList l then l.tail else l) deep ∧ BtP pb w w':=by
 obtain ⟨⟨k,t,pl⟩,r,rfl⟩:=h.ends.cons
 have HI:=Jh (z3y pb tb deep _ s w h)
 have HP:=Jh (fun (W : World) (hb : Below w.heap.size w W) (hi : isT s.data.toList (⟨k,t,pl⟩ :: r) = true) => z3t pb tb deep k t pl r W (h.below hb) (h.tail_ends hs hi))
 have HH:=Jh h
 clear h
 cases q : isT s.data.toList (⟨k,t,pl⟩ :: r) with
 | false =>
  rw [q] at HI
  simp only [Bool.false_eq_true,if_false]
  clear HP q
  go_enter Tryz.func227,Tryz.ntmps227
  go_wp2_with fail
  refine HI.out.mono ?_
  rintro e w1 ⟨rfl,hb⟩
  have HB:=Jh hb
  clear hb
  go_wp2_with fail
  all_goals go_ret
  all_goals exact ⟨rfl,HH.out.below HB.out,.of_below HB.out⟩
 | true =>
  rw [q] at HI
  simp only [if_true,List.tail_cons]
  have HQ:=Jh q
  clear q
  go_enter Tryz.func227,Tryz.ntmps227
  go_wp2_with fail
  refine HI.out.mono ?_
  rintro e w1 ⟨rfl,hb⟩
  have HB:=Jh hb
  clear hb
  go_wp2_with fail
  refine (HP.out _ HB.out HQ.out).mono ?_
  rintro e w2 ⟨rfl,hp,hb⟩
  have HP2:=Jh hp
  have HB2:=Jh ((BtP.of_below (pb:=pb) HB.out).trans hb)
  clear hp hb
  go_wp2_with fail
  all_goals go_ret
  all_goals exact ⟨rfl,HP2.out,HB2.out⟩
theorem z1t (pb tb deep g : Nat) (l : List Tok) (s : ByteArray) (hs : s.data.toList ≠ []) (w : World) (h : Ps pb tb w l deep) (hg : w.heap[g]? = some (.cells #[.string s] 9 (0,0))) (hi : isT s.data.toList l = true) :
 Calls Tryz.prog 247 #[.pointer (some ⟨pb,0,none⟩),.slice (some ⟨g,0,none⟩) 1 1] w fun e w' => e = .returned (.tuple #[]) ∧ Ps pb tb w' l.tail deep ∧ BtP pb w w':=by
 have HM:=Jh (z1i pb tb deep l s hs w h)
 rw [hi] at HM
 simp only [if_true] at HM
 have c0 : w.cell? ⟨g,0,none⟩ = some (.string s):=by rw [Jc hg]; rfl
 clear h hg hi
 go_enter Tryz.func247,Tryz.ntmps247
 go_wp2_with fail
 go_loopw [8] (fun i wr => (i = .int .i64 0 ∧ wr = w) ∨ (i = .int .i64 1 ∧ Hid (Ps pb tb wr l.tail deep ∧ BtP pb w wr))) (fun i _ => 1 - (intOf i).toNat)
 case atStart => exact .inl ⟨rfl,rfl⟩
 case round =>
  rcases hrel with ⟨rfl,rfl⟩ | ⟨rfl,HX⟩
  ·go_wp2_with fail
   refine HM.out.mono ?_
   rintro e w1 ⟨rfl,hp⟩
   have HP:=Jh hp
   clear hp
   go_wp2_with fail
   go_roundw
   case rel => exact .inr ⟨by go_num,HP⟩
   case measure => simp [intOf]
  ·go_wp2_with fail
   all_goals go_end0
   all_goals exact ⟨rfl,HX.out⟩
theorem z1u (pb tb deep g : Nat) (l : List Tok) (s : ByteArray) (hs : s.data.toList ≠ []) (w : World) (h : Ps pb tb w l deep) (hg : w.heap[g]? = some (.cells #[.string s] 9 (0,0))) (hi : isT s.data.toList l = false) :
 Calls Tryz.prog 247 #[.pointer (some ⟨pb,0,none⟩),.slice (some ⟨g,0,none⟩) 1 1] w fun e w' => e = .panicked (thr 170 (z1q l)) ∧ BtP pb w w':=by
 have HM:=Jh (z1i pb tb deep l s hs w h)
 rw [hi] at HM
 simp only [Bool.false_eq_true,if_false] at HM
 have c0 : w.cell? ⟨g,0,none⟩ = some (.string s):=by rw [Jc hg]; rfl
 obtain ⟨⟨k,t,pl⟩,r,rfl⟩:=h.ends.cons
 have HF:=Jh (fun (W : World) (hp : Ps pb tb W (⟨k,t,pl⟩ :: r) deep) => z3s pb tb deep 170 k t pl r W hp)
 clear h hg hi
 go_enter Tryz.func247,Tryz.ntmps247
 go_wp2_with fail
 go_loopw [8] (fun i wr => i = .int .i64 0 ∧ wr = w) (fun i _ => 1 - (intOf i).toNat)
 case atStart => exact ⟨rfl,rfl⟩
 case round =>
  obtain ⟨rfl,rfl⟩:=hrel
  go_wp2_with fail
  refine HM.out.mono ?_
  rintro e w1 ⟨rfl,hp,hb⟩
  have HP:=Jh hp
  have HB:=Jh hb
  clear hp hb
  go_wp2_with fail
  refine (HF.out _ HP.out).mono ?_
  rintro e w2 ⟨rfl,hb⟩
  have HB2:=Jh (HB.out.trans (.of_below hb))
  clear hb
  go_wp2_with fail
  exact ⟨rfl,rfl,HB2.out⟩
end Go.Proofs.YtockinpjfhhkoaaGreatDoor
namespace Go.Proofs
open Go.Shelf
def Tryz.lays172_ren : Go.Shelf.Ren:=⟨fun | 172 => 272 | 244 => 284 | 245 => 252 | 247 => 288 | 279 => 263 | 280 => 264 | 281 => 265 | 282 => 266 | 287 => 251 | 316 => 276 | 171 => 278 | 205 => 277 | 321 => 261 | 322 => 262 | 243 => 285 | 246 => 289 | 283 => 267 | 284 => 268 | 285 => 269 | 286 => 270 | 129 => 280 | 317 => 279 | 318 => 281 | 319 => 282 | 320 => 283 | 337 => 286 | 338 => 287 | n => n,fun | 9 => 9 | 3 => 3 | 75 => 283 | 76 => 309 | 4 => 4 | 5 => 5 | 167 => 297 | 37 => 299 | 0 => 0 | 85 => 329 | 2 => 2 | 168 => 300 | 53 => 158 | 175 => 284 | 46 => 275 | 210 => 318 | 127 => 324 | 145 => 327 | 143 => 325 | 21 => 21 | 171 => 304 | 173 => 307 | 212 => 321 | 51 => 313 | 20 => 20 | 213 => 322 | 232 => 332 | 233 => 333 | 80 => 334 | n => n,fun | 15 => 1 | 16 => 2 | 17 => 3 | 18 => 4 | 19 => 5 | n => n⟩
theorem Tryz.lays172 : Go.Proofs.Lays.n172 Tryz.prog Tryz.lays172_ren:={
 mixed:=by kernel_rfl
 f129:=Tryz.func280.trans (congrArg some (by kernel_rfl))
 f171:=Tryz.func278.trans (congrArg some (by kernel_rfl))
 f172:=Tryz.func272.trans (congrArg some (by kernel_rfl))
 f205:=Tryz.func277.trans (congrArg some (by kernel_rfl))
 f243:=Tryz.func285.trans (congrArg some (by kernel_rfl))
 f244:=Tryz.func284.trans (congrArg some (by kernel_rfl))
 f245:=Tryz.func252.trans (congrArg some (by kernel_rfl))
 f246:=Tryz.func289.trans (congrArg some (by kernel_rfl))
 f247:=Tryz.func288.trans (congrArg some (by kernel_rfl))
 f279:=Tryz.func263.trans (congrArg some (by kernel_rfl))
 f280:=Tryz.func264.trans (congrArg some (by kernel_rfl))
 f281:=Tryz.func265.trans (congrArg some (by kernel_rfl))
 f282:=Tryz.func266.trans (congrArg some (by kernel_rfl))
 f283:=Tryz.func267.trans (congrArg some (by kernel_rfl))
 f284:=Tryz.func268.trans (congrArg some (by kernel_rfl))
 f285:=Tryz.func269.trans (congrArg some (by kernel_rfl))
 f286:=Tryz.func270.trans (congrArg some (by kernel_rfl))
 f287:=Tryz.func251.trans (congrArg some (by kernel_rfl))
 f316:=Tryz.func276.trans (congrArg some (by kernel_rfl))
 f317:=Tryz.func279.trans (congrArg some (by kernel_rfl))
 f318:=Tryz.func281.trans (congrArg some (by kernel_rfl))
 f319:=Tryz.func282.trans (congrArg some (by kernel_rfl))
 f320:=Tryz.func283.trans (congrArg some (by kernel_rfl))
 f321:=Tryz.func261.trans (congrArg some (by kernel_rfl))
 f322:=Tryz.func262.trans (congrArg some (by kernel_rfl))
 f337:=Tryz.func286.trans (congrArg some (by kernel_rfl))
 f338:=Tryz.func287.trans (congrArg some (by kernel_rfl))
 t0:=Tryz.underlying0
 a0:=Tryz.isAgg0
 z0:=Tryz.sizeOf0
 v0:=Tryz.zeroValue0
 t2:=Tryz.underlying2
 a2:=Tryz.isAgg2
 z2:=Tryz.sizeOf2
 v2:=Tryz.zeroValue2
 t3:=Tryz.underlying3
 a3:=Tryz.isAgg3
 z3:=Tryz.sizeOf3
 v3:=Tryz.zeroValue3
 t4:=Tryz.underlying4
 a4:=Tryz.isAgg4
 z4:=Tryz.sizeOf4
 v4:=Tryz.zeroValue4
 t5:=Tryz.underlying5
 a5:=Tryz.isAgg5
 z5:=Tryz.sizeOf5
 v5:=Tryz.zeroValue5
 t9:=Tryz.underlying9
 a9:=Tryz.isAgg9
 z9:=Tryz.sizeOf9
 v9:=Tryz.zeroValue9
 t20:=Tryz.underlying20
 a20:=Tryz.isAgg20
 z20:=Tryz.sizeOf20
 v20:=Tryz.zeroValue20
 t21:=Tryz.underlying21
 a21:=Tryz.isAgg21
 z21:=Tryz.sizeOf21
 v21:=Tryz.zeroValue21
 t37:=Tryz.underlying299
 a37:=Tryz.isAgg299
 z37:=Tryz.sizeOf299
 v37:=Tryz.zeroValue299
 t46:=Tryz.underlying275
 a46:=Tryz.isAgg275
 z46:=Tryz.sizeOf275
 v46:=Tryz.zeroValue275
 t51:=Tryz.underlying313
 a51:=Tryz.isAgg313
 z51:=Tryz.sizeOf313
 v51:=Tryz.zeroValue313
 t53:=Tryz.underlying158
 a53:=Tryz.isAgg158
 z53:=Tryz.sizeOf158
 v53:=Tryz.zeroValue158
 t75:=Tryz.underlying283
 a75:=Tryz.isAgg283
 z75:=Tryz.sizeOf283
 v75:=Tryz.zeroValue283
 t76:=Tryz.underlying309
 a76:=Tryz.isAgg309
 z76:=Tryz.sizeOf309
 v76:=Tryz.zeroValue309
 t85:=Tryz.underlying329
 a85:=Tryz.isAgg329
 z85:=Tryz.sizeOf329
 v85:=Tryz.zeroValue329
 t127:=Tryz.underlying324
 a127:=Tryz.isAgg324
 z127:=Tryz.sizeOf324
 v127:=Tryz.zeroValue324
 t143:=Tryz.underlying325
 a143:=Tryz.isAgg325
 z143:=Tryz.sizeOf325
 v143:=Tryz.zeroValue325
 t145:=Tryz.underlying327
 a145:=Tryz.isAgg327
 z145:=Tryz.sizeOf327
 v145:=Tryz.zeroValue327
 t167:=Tryz.underlying297
 a167:=Tryz.isAgg297
 z167:=Tryz.sizeOf297
 v167:=Tryz.zeroValue297
 t168:=Tryz.underlying300
 a168:=Tryz.isAgg300
 z168:=Tryz.sizeOf300
 v168:=Tryz.zeroValue300
 t171:=Tryz.underlying304
 a171:=Tryz.isAgg304
 z171:=Tryz.sizeOf304
 v171:=Tryz.zeroValue304
 t173:=Tryz.underlying307
 a173:=Tryz.isAgg307
 z173:=Tryz.sizeOf307
 v173:=Tryz.zeroValue307
 t175:=Tryz.underlying284
 a175:=Tryz.isAgg284
 z175:=Tryz.sizeOf284
 v175:=Tryz.zeroValue284
 t210:=Tryz.underlying318
 a210:=Tryz.isAgg318
 z210:=Tryz.sizeOf318
 v210:=Tryz.zeroValue318
 t212:=Tryz.underlying321
 a212:=Tryz.isAgg321
 z212:=Tryz.sizeOf321
 v212:=Tryz.zeroValue321
 t213:=Tryz.underlying322
 a213:=Tryz.isAgg322
 z213:=Tryz.sizeOf322
 t232:=Tryz.underlying332
 a232:=Tryz.isAgg332
 z232:=Tryz.sizeOf332
 v232:=Tryz.zeroValue332
 t233:=Tryz.underlying333
 a233:=Tryz.isAgg333
 z233:=Tryz.sizeOf333
 v233:=Tryz.zeroValue333
 g15:=by kernel_rfl
 g16:=by kernel_rfl
 g17:=by kernel_rfl
 g18:=by kernel_rfl
 g19:=by kernel_rfl }
end Go.Proofs
namespace Go.Proofs.YtockinpjfhhkoaaGreatDoor
open Go.RowKit
theorem digit_val {c : UInt8} (h : 48 ≤ c ∧ c ≤ 57) : Lib.digitVal c = some (c.toNat - 48):=by
 have h1:=UInt8.le_iff_toNat_le.1 h.1
 have h2:=UInt8.le_iff_toNat_le.1 h.2
 unfold Lib.digitVal
 rw [if_pos ⟨h1,h2⟩]
theorem dec_digits : ∀ (l : List UInt8) (acc : Nat),(∀ c ∈ l,48 ≤ c ∧ c ≤ 57) → ∃ m : Nat,Lib.decFrom acc l = some m ∧ (m : Int) = l.foldl (fun n c => 10 * n + ((c.toNat : Int) - 48)) (acc : Int)
 | [],acc,_ => ⟨acc,rfl,rfl⟩
 | c :: r,acc,h => by
  have hc:=h c (by simp)
  obtain ⟨m,h1,h2⟩:=dec_digits r (acc * 10 + (c.toNat - 48)) fun x hx => h x (by simp [hx])
  refine ⟨m,?_,?_⟩
  ·unfold Lib.decFrom
   rw [digit_val hc]
   exact h1
  ·rw [h2,List.foldl_cons]
   congr 1
   have:=UInt8.le_iff_toNat_le.1 hc.1
   simp at this
   omega
theorem atoi_digits {l : List UInt8} (h0 : l ≠ []) (h : ∀ c ∈ l,48 ≤ c ∧ c ≤ 57) : Lib.atoi l = some (z2o l):=by
 obtain ⟨m,h1,h2⟩:=dec_digits l 0 h
 match l,h0 with
 | c :: r,_ =>
  have hc:=h c (by simp)
  have e1:=UInt8.le_iff_toNat_le.1 hc.1
  have n45 : (c == 45) = false:=by
   rw [beq_eq_false_iff_ne]; rintro rfl; exact absurd e1 (by decide)
  have n43 : (c == 43) = false:=by
   rw [beq_eq_false_iff_ne]; rintro rfl; exact absurd e1 (by decide)
  simp only [Lib.atoi,n45,n43,Bool.false_eq_true,if_false]
  have hd : Lib.decNat (c :: r) = some m:=by
   unfold Lib.decNat
   first | exact h1 | simpa using h1
  rw [hd]
  show some (m : Int) = some (z2o (c :: r))
  rw [h2]; rfl
theorem z9q (w : World) (e : TypeId) (t : ByteArray) : Below w.heap.size w (Lib.bytesWorld w e t):=by
 unfold Lib.bytesWorld
 exact Lib.below_freeze ((Below.drew (Below.refl _ w)).alloc (Nat.le_refl _) _) (p:=⟨w.heap.size,_,none⟩) (Nat.le_refl _) _
theorem atoi198_any (s : ByteArray) (h0 : s.data.toList ≠ []) (hl : s.data.toList.length ≤ 18) (h : ∀ c ∈ s.data.toList,48 ≤ c ∧ c ≤ 57) (w : World) :
 Calls Tryz.prog 272 #[.string s] w fun e w' => e = .returned (.tuple #[.int .i64 (z2o s.data.toList),.nilIface]) ∧ Below w.heap.size w w':=by
 refine (Any.strconv_Atoi Tryz.lays172 s _ (by simpa using hl) (atoi_digits h0 h) w).mono ?_
 rintro e w' ⟨rfl,t,rfl⟩
 exact ⟨rfl,z9q _ _ _⟩
theorem z4a (pb tb deep : Nat) (s : ByteArray) (pl : Int) (r : List Tok) (w : World) (h : Ps pb tb w (⟨2,s,pl⟩ :: r) deep) :
 Calls Tryz.prog 255 #[.pointer (some ⟨pb,0,none⟩)] w fun e w' => e = .returned (.int .i64 (z2o s.data.toList)) ∧ Ps pb tb w' r deep ∧ BtP pb w w':=by
 obtain ⟨_,h2⟩:=h.toks _ (List.mem_cons_self ..)
 obtain ⟨g1,g2,g3⟩:=h2 rfl
 have HA:=Jh (fun W => atoi198_any s g1 g2 g3 W)
 have HN:=Jh (z3q pb tb deep 2 s pl r w h)
 have HP:=Jh (fun (W : World) (hb : Below w.heap.size w W) => z3t pb tb deep 2 s pl r W (h.below hb) (h.ends.tail (.inl (show (2 : Int) ≠ 0 by decide))))
 have hf0:=fun W => (fld51 (.int .u8 2) (.string s) (.int .i64 pl) W).1
 have hf1:=fun W => (fld51 (.int .u8 2) (.string s) (.int .i64 pl) W).2.1
 clear h h2 g1 g2 g3
 generalize z2o s.data.toList = D at HA ⊢
 go_enter Tryz.func255,Tryz.ntmps255
 go_wp2_with fail
 refine HN.out.mono ?_
 rintro e w1 ⟨rfl,hb⟩
 have HB:=Jh hb
 clear hb
 go_wp2_with fail
 refine (HP.out _ HB.out).mono ?_
 rintro e w2 ⟨rfl,hp,hb⟩
 have HX:=Jh hp
 have HB2:=Jh ((BtP.of_below (pb:=pb) HB.out).trans hb)
 clear hp hb
 go_wp2_with fail
 refine (HA.out _).mono ?_
 rintro e w3 ⟨rfl,hb⟩
 have HX3:=Jh (HX.out.below hb)
 have HB3:=Jh (HB2.out.trans (.of_below hb))
 clear hb
 go_wp2_with fail
 all_goals go_ret
 all_goals exact ⟨rfl,HX3.out,HB3.out⟩
theorem z4b (pb tb deep : Nat) (k : Int) (s : ByteArray) (pl : Int) (r : List Tok) (w : World) (h : Ps pb tb w (⟨k,s,pl⟩ :: r) deep) (hk : k ≠ 2) :
 Calls Tryz.prog 255 #[.pointer (some ⟨pb,0,none⟩)] w fun e w' => e = .panicked (thr 170 pl) ∧ BtP pb w w':=by
 have HN:=Jh (z3q pb tb deep k s pl r w h)
 have HF:=Jh (fun (W : World) (hb : Below w.heap.size w W) => z3s pb tb deep 170 k s pl r W (h.below hb))
 have hf0:=fun W => (fld51 (.int .u8 k) (.string s) (.int .i64 pl) W).1
 have q : (k != 2) = true:=by simpa using hk
 clear h hk
 go_enter Tryz.func255,Tryz.ntmps255
 go_wp2_with fail
 refine HN.out.mono ?_
 rintro e w1 ⟨rfl,hb⟩
 have HB:=Jh hb
 clear hb
 go_wp2_with fail
 refine (HF.out _ HB.out).mono ?_
 rintro e w2 ⟨rfl,hb⟩
 have HB2:=Jh ((BtP.of_below (pb:=pb) HB.out).trans (.of_below hb))
 clear hb
 go_wp2_with fail
 exact ⟨rfl,rfl,HB2.out⟩
end Go.Proofs.YtockinpjfhhkoaaGreatDoor
