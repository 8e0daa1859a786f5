/- The library's contracts that this program can use, laid at its numbers. -/
import Derived.Shelf.Small.Utf8
import Derived.Shelf.Small.Strs
import Derived.Shelf.Strconv.Itoa0
import Derived.Shelf.Strconv.Itoa1
import Derived.Shelf.LaysM
import Derived.Shelf.Strconv.Itoa2
import Derived.Ground.MpProg
import Derived.Shelf.Pu.ParseUintPublic10
import Derived.Shelf.Strings.Search1
import Derived.Shelf.Strings.Search2
import Derived.Shelf.Strings.Search3
import Derived.Shelf.Strings.Shaped
import Derived.Shelf.Strings.Runes
import Derived.Test.YtpgdplmndnopbaaGreatDoorProg
import Derived.Lib.Strings
import Derived.Lib.ParseIntBMem
import Derived.Lib.ConvBytes
import Derived.Lib.Hide
import Derived.Laws.Strings3
import Derived.Laws.Closers25
import Derived.Laws.Closers25b
import Derived.WalkKit
import Derived.BigCall
import Derived.BigGuard
import Derived.LoopTactic
import Derived.Shelf.Pu.ToError
import Derived.Shelf.Pu.ToErrorRange
import Derived.Shelf.Pu.Lower
set_option maxRecDepth 100000
set_option maxHeartbeats 16000000
namespace Go.Proofs
open Go.Shelf
def Tryz.lays119_ren : Go.Shelf.Ren:=⟨fun | 119 => 153 | n => n,fun | 21 => 21 | 4 => 4 | n => n,fun | n => n⟩
theorem Tryz.lays119 : Go.Proofs.Lays.n119 Tryz.prog Tryz.lays119_ren:={
 mixed:=by kernel_rfl
 f119:=Tryz.func153.trans (congrArg some (by kernel_rfl))
 t4:=Tryz.underlying4
 a4:=Tryz.isAgg4
 z4:=Tryz.sizeOf4
 v4:=Tryz.zeroValue4
 t21:=Tryz.underlying21
 a21:=Tryz.isAgg21
 z21:=Tryz.sizeOf21
 v21:=Tryz.zeroValue21 }
theorem Tryz.utf8_ValidRune (r : Int) (w : World) :
 Calls Tryz.prog 153 #[.int .i32 r] w fun e w' => e = .returned (.bool (Lib.validRune r)) ∧ w' = w:=Any.utf8_ValidRune Tryz.lays119 r w
def Tryz.lays137_ren : Go.Shelf.Ren:=⟨fun | 137 => 152 | 217 => 176 | 266 => 196 | n => n,fun | 9 => 9 | 5 => 5 | 3 => 3 | n => n,fun | n => n⟩
theorem Tryz.lays137 : Go.Proofs.Lays.n137 Tryz.prog Tryz.lays137_ren:={
 mixed:=by kernel_rfl
 f137:=Tryz.func152.trans (congrArg some (by kernel_rfl))
 f217:=Tryz.func176.trans (congrArg some (by kernel_rfl))
 f266:=Tryz.func196.trans (congrArg some (by kernel_rfl))
 t3:=Tryz.underlying3
 a3:=Tryz.isAgg3
 z3:=Tryz.sizeOf3
 v3:=Tryz.zeroValue3
 t5:=Tryz.underlying5
 a5:=Tryz.isAgg5
 z5:=Tryz.sizeOf5
 v5:=Tryz.zeroValue5
 t9:=Tryz.underlying9
 a9:=Tryz.isAgg9
 z9:=Tryz.sizeOf9
 v9:=Tryz.zeroValue9 }
open Go.RowKit in
theorem Tryz.strings_IndexByte (s : ByteArray) (c : Int) (w : World) :
 Calls Tryz.prog 152 #[.string s,.int .u8 c] w fun e w' => e = .returned (.int .i64 (Lib.indexByte s.data.toList c.toNat.toUInt8)) ∧ w' = w:=Any.strings_IndexByte Tryz.lays137 s c w
def Tryz.lays283_ren : Go.Shelf.Ren:=⟨fun | 283 => 192 | n => n,fun | 3 => 3 | 9 => 9 | 4 => 4 | n => n,fun | n => n⟩
theorem Tryz.lays283 : Go.Proofs.Lays.n283 Tryz.prog Tryz.lays283_ren:={
 mixed:=by kernel_rfl
 f283:=Tryz.func192.trans (congrArg some (by kernel_rfl))
 t3:=Tryz.underlying3
 a3:=Tryz.isAgg3
 z3:=Tryz.sizeOf3
 v3:=Tryz.zeroValue3
 t4:=Tryz.underlying4
 a4:=Tryz.isAgg4
 z4:=Tryz.sizeOf4
 v4:=Tryz.zeroValue4
 t9:=Tryz.underlying9
 a9:=Tryz.isAgg9
 z9:=Tryz.sizeOf9
 v9:=Tryz.zeroValue9 }
open Go.Lib in
theorem Tryz.internal_strconv_small (i : Nat) (h : i < 100) (w : World) :
 Calls Tryz.prog 192 #[.int .i64 i] w fun e w' => e = .returned (.string ⟨(Lib.decDigits i).toArray⟩) ∧ w' = w:=Any.internal_strconv_small Tryz.lays283 i h w
def Tryz.laysM284_ren : Go.Shelf.Ren:=⟨fun | 284 => 193 | 129 => 209 | 317 => 208 | 318 => 210 | n => n,fun | 53 => 160 | 3 => 3 | 212 => 202 | 0 => 0 | 4 => 4 | 46 => 167 | 5 => 5 | 9 => 9 | n => n,fun | 17 => 3 | n => n⟩
theorem Tryz.laysM284 : Go.Proofs.LaysM.n284 Tryz.prog Tryz.laysM284_ren:={
 mixed:=by kernel_rfl
 f129:=Tryz.func209.trans (congrArg some (by kernel_rfl))
 f284:=Tryz.func193.trans (congrArg some (by kernel_rfl))
 f317:=Tryz.func208.trans (congrArg some (by kernel_rfl))
 f318:=Tryz.func210.trans (congrArg some (by kernel_rfl))
 t0:=Tryz.underlying0
 a0:=Tryz.isAgg0
 z0:=Tryz.sizeOf0
 v0:=Tryz.zeroValue0
 t3:=Tryz.underlying3
 a3:=Tryz.isAgg3
 z3:=Tryz.sizeOf3
 v3:=Tryz.zeroValue3
 t4:=Tryz.underlying4
 a4:=Tryz.isAgg4
 z4:=Tryz.sizeOf4
 v4:=Tryz.zeroValue4
 t5:=Tryz.underlying5
 a5:=Tryz.isAgg5
 z5:=Tryz.sizeOf5
 v5:=Tryz.zeroValue5
 t9:=Tryz.underlying9
 a9:=Tryz.isAgg9
 z9:=Tryz.sizeOf9
 v9:=Tryz.zeroValue9
 t46:=Tryz.underlying167
 a46:=Tryz.isAgg167
 z46:=Tryz.sizeOf167
 v46:=Tryz.zeroValue167
 t53:=Tryz.underlying160
 a53:=Tryz.isAgg160
 z53:=Tryz.sizeOf160
 v53:=Tryz.zeroValue160
 t212:=Tryz.underlying202
 a212:=Tryz.isAgg202
 z212:=Tryz.sizeOf202
 v212:=Tryz.zeroValue202
 g17:=by kernel_rfl
 i0:=by kernel_rfl
 i3:=by kernel_rfl
 i4:=by kernel_rfl
 i5:=by kernel_rfl
 i9:=by kernel_rfl
 i46:=by kernel_rfl
 i53:=by kernel_rfl
 i212:=by kernel_rfl
 m17:=by kernel_rfl }
open Go.Lib in
theorem Tryz.internal_strconv_numDigits (u : Nat) (h1 : 1 ≤ u) (h2 : u < 18446744073709551616) (w : World) (htab : Lib.TabIs Tryz.prog w "internal/strconv.uint64pow10" .u64 Lib.pow10Tab) :
 Calls Tryz.prog 193 #[.int .u64 u] w fun e w' => e = .returned (.int .i64 (Lib.nDigits u)) ∧ w' = w:=Any.internal_strconv_numDigits Tryz.laysM284 u h1 h2 w htab
def Tryz.lays285_ren : Go.Shelf.Ren:=⟨fun | 285 => 194 | n => n,fun | 37 => 65 | 53 => 160 | 3 => 3 | 4 => 4 | 51 => 203 | 9 => 9 | 5 => 5 | 0 => 0 | n => n,fun | n => n⟩
theorem Tryz.lays285 : Go.Proofs.Lays.n285 Tryz.prog Tryz.lays285_ren:={
 mixed:=by kernel_rfl
 f285:=Tryz.func194.trans (congrArg some (by kernel_rfl))
 t0:=Tryz.underlying0
 a0:=Tryz.isAgg0
 z0:=Tryz.sizeOf0
 v0:=Tryz.zeroValue0
 t3:=Tryz.underlying3
 a3:=Tryz.isAgg3
 z3:=Tryz.sizeOf3
 v3:=Tryz.zeroValue3
 t4:=Tryz.underlying4
 a4:=Tryz.isAgg4
 z4:=Tryz.sizeOf4
 v4:=Tryz.zeroValue4
 t5:=Tryz.underlying5
 a5:=Tryz.isAgg5
 z5:=Tryz.sizeOf5
 v5:=Tryz.zeroValue5
 t9:=Tryz.underlying9
 a9:=Tryz.isAgg9
 z9:=Tryz.sizeOf9
 v9:=Tryz.zeroValue9
 t37:=Tryz.underlying65
 a37:=Tryz.isAgg65
 z37:=Tryz.sizeOf65
 v37:=Tryz.zeroValue65
 t51:=Tryz.underlying203
 a51:=Tryz.isAgg203
 z51:=Tryz.sizeOf203
 v51:=Tryz.zeroValue203
 t53:=Tryz.underlying160
 a53:=Tryz.isAgg160
 z53:=Tryz.sizeOf160
 v53:=Tryz.zeroValue160 }
open Go.RowKit Go.Sort Go.Lib in
theorem Tryz.internal_strconv_formatBase10 (blk off cap : Nat) (u : Nat) (d : Array UInt8) (w : World) (hH : Holds (fun (b : UInt8) => Value.int .u8 (b.toNat : Int)) w blk off d) (hu : u < 10 ^ d.size) (hu64 : u < 18446744073709551616) (hsz : d.size < 4611686018427387904) :
 Calls Tryz.prog 194 #[.slice (some ⟨blk,off,none⟩) d.size cap,.int .u64 u] w fun e w' =>
  e = .returned (.tuple #[]) ∧ ∃ (n v' : Nat) (dk : Array UInt8),w' = (putRow (fun (b : UInt8) => Value.int .u8 (b.toNat : Int)) w blk off dk).drewN n ∧ FmtInv d.size u 0 v' dk:=Any.internal_strconv_formatBase10 Tryz.lays285 blk off cap u d w hH hu hu64 hsz
def Tryz.laysPu14_ren : Go.Shelf.Ren:=⟨fun | 14 => 150 | 16 => 173 | 17 => 174 | 19 => 186 | 20 => 187 | 21 => 188 | 22 => 189 | 23 => 190 | 24 => 191 | 25 => 206 | 27 => 127 | 26 => 207 | 28 => 163 | 29 => 178 | 30 => 192 | 31 => 193 | 32 => 194 | 33 => 195 | 35 => 209 | 34 => 208 | 36 => 210 | 37 => 211 | 38 => 212 | 39 => 217 | 40 => 218 | n => n,fun | 9 => 9 | 3 => 3 | 22 => 160 | 24 => 147 | 25 => 161 | 4 => 4 | 34 => 185 | 5 => 5 | 36 => 167 | 37 => 65 | 0 => 0 | 39 => 187 | 21 => 21 | 44 => 199 | 47 => 114 | 50 => 210 | 48 => 208 | 2 => 2 | 52 => 190 | 55 => 193 | 59 => 202 | 60 => 203 | 20 => 20 | 61 => 204 | 65 => 214 | 66 => 215 | 67 => 71 | n => n,fun | 0 => 1 | 1 => 2 | 2 => 3 | 3 => 4 | 4 => 5 | n => n⟩
theorem Tryz.laysPu14 : Go.Proofs.LaysPu.n14 Tryz.prog Tryz.laysPu14_ren:={
 mixed:=by kernel_rfl
 f14:=Tryz.func150.trans (congrArg some (by kernel_rfl))
 f16:=Tryz.func173.trans (congrArg some (by kernel_rfl))
 f17:=Tryz.func174.trans (congrArg some (by kernel_rfl))
 f19:=Tryz.func186.trans (congrArg some (by kernel_rfl))
 f20:=Tryz.func187.trans (congrArg some (by kernel_rfl))
 f21:=Tryz.func188.trans (congrArg some (by kernel_rfl))
 f22:=Tryz.func189.trans (congrArg some (by kernel_rfl))
 f23:=Tryz.func190.trans (congrArg some (by kernel_rfl))
 f24:=Tryz.func191.trans (congrArg some (by kernel_rfl))
 f25:=Tryz.func206.trans (congrArg some (by kernel_rfl))
 f26:=Tryz.func207.trans (congrArg some (by kernel_rfl))
 f27:=Tryz.func127.trans (congrArg some (by kernel_rfl))
 f28:=Tryz.func163.trans (congrArg some (by kernel_rfl))
 f29:=Tryz.func178.trans (congrArg some (by kernel_rfl))
 f30:=Tryz.func192.trans (congrArg some (by kernel_rfl))
 f31:=Tryz.func193.trans (congrArg some (by kernel_rfl))
 f32:=Tryz.func194.trans (congrArg some (by kernel_rfl))
 f33:=Tryz.func195.trans (congrArg some (by kernel_rfl))
 f34:=Tryz.func208.trans (congrArg some (by kernel_rfl))
 f35:=Tryz.func209.trans (congrArg some (by kernel_rfl))
 f36:=Tryz.func210.trans (congrArg some (by kernel_rfl))
 f37:=Tryz.func211.trans (congrArg some (by kernel_rfl))
 f38:=Tryz.func212.trans (congrArg some (by kernel_rfl))
 f39:=Tryz.func217.trans (congrArg some (by kernel_rfl))
 f40:=Tryz.func218.trans (congrArg some (by kernel_rfl))
 t0:=Tryz.underlying0
 a0:=Tryz.isAgg0
 z0:=Tryz.sizeOf0
 v0:=Tryz.zeroValue0
 i0:=by kernel_rfl
 t2:=Tryz.underlying2
 a2:=Tryz.isAgg2
 z2:=Tryz.sizeOf2
 v2:=Tryz.zeroValue2
 i2:=by kernel_rfl
 t3:=Tryz.underlying3
 a3:=Tryz.isAgg3
 z3:=Tryz.sizeOf3
 v3:=Tryz.zeroValue3
 i3:=by kernel_rfl
 t4:=Tryz.underlying4
 a4:=Tryz.isAgg4
 z4:=Tryz.sizeOf4
 v4:=Tryz.zeroValue4
 i4:=by kernel_rfl
 t5:=Tryz.underlying5
 a5:=Tryz.isAgg5
 z5:=Tryz.sizeOf5
 v5:=Tryz.zeroValue5
 i5:=by kernel_rfl
 t9:=Tryz.underlying9
 a9:=Tryz.isAgg9
 z9:=Tryz.sizeOf9
 v9:=Tryz.zeroValue9
 i9:=by kernel_rfl
 t20:=Tryz.underlying20
 a20:=Tryz.isAgg20
 z20:=Tryz.sizeOf20
 v20:=Tryz.zeroValue20
 i20:=by kernel_rfl
 t21:=Tryz.underlying21
 a21:=Tryz.isAgg21
 z21:=Tryz.sizeOf21
 v21:=Tryz.zeroValue21
 i21:=by kernel_rfl
 t22:=Tryz.underlying160
 a22:=Tryz.isAgg160
 z22:=Tryz.sizeOf160
 v22:=Tryz.zeroValue160
 i22:=by kernel_rfl
 t24:=Tryz.underlying147
 a24:=Tryz.isAgg147
 z24:=Tryz.sizeOf147
 v24:=Tryz.zeroValue147
 i24:=by kernel_rfl
 t25:=Tryz.underlying161
 a25:=Tryz.isAgg161
 z25:=Tryz.sizeOf161
 v25:=Tryz.zeroValue161
 i25:=by kernel_rfl
 t34:=Tryz.underlying185
 a34:=Tryz.isAgg185
 z34:=Tryz.sizeOf185
 v34:=Tryz.zeroValue185
 i34:=by kernel_rfl
 c34:=by kernel_rfl
 t36:=Tryz.underlying167
 a36:=Tryz.isAgg167
 z36:=Tryz.sizeOf167
 v36:=Tryz.zeroValue167
 i36:=by kernel_rfl
 t37:=Tryz.underlying65
 a37:=Tryz.isAgg65
 z37:=Tryz.sizeOf65
 v37:=Tryz.zeroValue65
 i37:=by kernel_rfl
 t39:=Tryz.underlying187
 a39:=Tryz.isAgg187
 z39:=Tryz.sizeOf187
 v39:=Tryz.zeroValue187
 i39:=by kernel_rfl
 t44:=Tryz.underlying199
 a44:=Tryz.isAgg199
 z44:=Tryz.sizeOf199
 v44:=Tryz.zeroValue199
 i44:=by kernel_rfl
 t47:=Tryz.underlying114
 a47:=Tryz.isAgg114
 z47:=Tryz.sizeOf114
 v47:=Tryz.zeroValue114
 i47:=by kernel_rfl
 t48:=Tryz.underlying208
 a48:=Tryz.isAgg208
 z48:=Tryz.sizeOf208
 v48:=Tryz.zeroValue208
 i48:=by kernel_rfl
 t50:=Tryz.underlying210
 a50:=Tryz.isAgg210
 z50:=Tryz.sizeOf210
 v50:=Tryz.zeroValue210
 i50:=by kernel_rfl
 t52:=Tryz.underlying190
 a52:=Tryz.isAgg190
 z52:=Tryz.sizeOf190
 v52:=Tryz.zeroValue190
 i52:=by kernel_rfl
 t55:=Tryz.underlying193
 a55:=Tryz.isAgg193
 z55:=Tryz.sizeOf193
 v55:=Tryz.zeroValue193
 i55:=by kernel_rfl
 t59:=Tryz.underlying202
 a59:=Tryz.isAgg202
 z59:=Tryz.sizeOf202
 v59:=Tryz.zeroValue202
 i59:=by kernel_rfl
 t60:=Tryz.underlying203
 a60:=Tryz.isAgg203
 z60:=Tryz.sizeOf203
 v60:=Tryz.zeroValue203
 i60:=by kernel_rfl
 t61:=Tryz.underlying204
 a61:=Tryz.isAgg204
 z61:=Tryz.sizeOf204
 t65:=Tryz.underlying214
 a65:=Tryz.isAgg214
 z65:=Tryz.sizeOf214
 v65:=Tryz.zeroValue214
 i65:=by kernel_rfl
 t66:=Tryz.underlying215
 a66:=Tryz.isAgg215
 z66:=Tryz.sizeOf215
 v66:=Tryz.zeroValue215
 i66:=by kernel_rfl
 t67:=Tryz.underlying71
 a67:=Tryz.isAgg71
 z67:=Tryz.sizeOf71
 v67:=Tryz.zeroValue71
 i67:=by kernel_rfl
 g0:=by kernel_rfl
 m0:=by kernel_rfl
 g1:=by kernel_rfl
 m1:=by kernel_rfl
 g2:=by kernel_rfl
 m2:=by kernel_rfl
 g3:=by kernel_rfl
 m3:=by kernel_rfl
 g4:=by kernel_rfl
 m4:=by kernel_rfl }
def Tryz.lays144_ren : Go.Shelf.Ren:=⟨fun | 144 => 137 | 143 => 165 | 219 => 179 | 217 => 176 | 225 => 155 | 224 => 154 | 267 => 197 | 266 => 196 | 314 => 213 | n => n,fun | 9 => 9 | 4 => 4 | 3 => 3 | 5 => 5 | 46 => 167 | 146 => 206 | 51 => 203 | n => n,fun | 1 => 0 | n => n⟩
theorem Tryz.lays144 : Go.Proofs.Lays.n144 Tryz.prog Tryz.lays144_ren:={
 mixed:=by kernel_rfl
 f143:=Tryz.func165.trans (congrArg some (by kernel_rfl))
 f144:=Tryz.func137.trans (congrArg some (by kernel_rfl))
 f217:=Tryz.func176.trans (congrArg some (by kernel_rfl))
 f219:=Tryz.func179.trans (congrArg some (by kernel_rfl))
 f224:=Tryz.func154.trans (congrArg some (by kernel_rfl))
 f225:=Tryz.func155.trans (congrArg some (by kernel_rfl))
 f266:=Tryz.func196.trans (congrArg some (by kernel_rfl))
 f267:=Tryz.func197.trans (congrArg some (by kernel_rfl))
 f314:=Tryz.func213.trans (congrArg some (by kernel_rfl))
 t3:=Tryz.underlying3
 a3:=Tryz.isAgg3
 z3:=Tryz.sizeOf3
 v3:=Tryz.zeroValue3
 t4:=Tryz.underlying4
 a4:=Tryz.isAgg4
 z4:=Tryz.sizeOf4
 v4:=Tryz.zeroValue4
 t5:=Tryz.underlying5
 a5:=Tryz.isAgg5
 z5:=Tryz.sizeOf5
 v5:=Tryz.zeroValue5
 t9:=Tryz.underlying9
 a9:=Tryz.isAgg9
 z9:=Tryz.sizeOf9
 v9:=Tryz.zeroValue9
 t46:=Tryz.underlying167
 a46:=Tryz.isAgg167
 z46:=Tryz.sizeOf167
 v46:=Tryz.zeroValue167
 t51:=Tryz.underlying203
 a51:=Tryz.isAgg203
 z51:=Tryz.sizeOf203
 v51:=Tryz.zeroValue203
 t146:=Tryz.underlying206
 a146:=Tryz.isAgg206
 z146:=Tryz.sizeOf206
 v146:=Tryz.zeroValue206
 g1:=by kernel_rfl }
open Go.RowKit Go.Lib in
theorem Tryz.strings_Contains (s sub : ByteArray) (m : Int) (w : World) (hs : s.size < 4294967281) (hm : w.cell? ⟨0,0,none⟩ = some (.int .i64 m)) :
 Calls Tryz.prog 137 #[.string s,.string sub] w fun e w' => e = .returned (.bool (Lib.contains s.data.toList sub.data.toList)) ∧ w' = w:=Any.strings_Contains Tryz.lays144 s sub m w hs hm
def Tryz.lays151_ren : Go.Shelf.Ren:=⟨fun | 151 => 62 | 152 => 114 | 137 => 152 | 119 => 153 | 224 => 154 | 225 => 155 | 217 => 176 | 266 => 196 | n => n,fun | 9 => 9 | 21 => 21 | 4 => 4 | 3 => 3 | 5 => 5 | 0 => 0 | 46 => 167 | n => n,fun | n => n⟩
theorem Tryz.lays151 : Go.Proofs.Lays.n151 Tryz.prog Tryz.lays151_ren:={
 mixed:=by kernel_rfl
 f119:=Tryz.func153.trans (congrArg some (by kernel_rfl))
 f137:=Tryz.func152.trans (congrArg some (by kernel_rfl))
 f151:=Tryz.func62.trans (congrArg some (by kernel_rfl))
 f152:=Tryz.func114.trans (congrArg some (by kernel_rfl))
 f217:=Tryz.func176.trans (congrArg some (by kernel_rfl))
 f224:=Tryz.func154.trans (congrArg some (by kernel_rfl))
 f225:=Tryz.func155.trans (congrArg some (by kernel_rfl))
 f266:=Tryz.func196.trans (congrArg some (by kernel_rfl))
 t0:=Tryz.underlying0
 a0:=Tryz.isAgg0
 z0:=Tryz.sizeOf0
 v0:=Tryz.zeroValue0
 t3:=Tryz.underlying3
 a3:=Tryz.isAgg3
 z3:=Tryz.sizeOf3
 v3:=Tryz.zeroValue3
 t4:=Tryz.underlying4
 a4:=Tryz.isAgg4
 z4:=Tryz.sizeOf4
 v4:=Tryz.zeroValue4
 t5:=Tryz.underlying5
 a5:=Tryz.isAgg5
 z5:=Tryz.sizeOf5
 v5:=Tryz.zeroValue5
 t9:=Tryz.underlying9
 a9:=Tryz.isAgg9
 z9:=Tryz.sizeOf9
 v9:=Tryz.zeroValue9
 t21:=Tryz.underlying21
 a21:=Tryz.isAgg21
 z21:=Tryz.sizeOf21
 v21:=Tryz.zeroValue21
 t46:=Tryz.underlying167
 a46:=Tryz.isAgg167
 z46:=Tryz.sizeOf167
 v46:=Tryz.zeroValue167 }
open Go.RowKit Go.Lib in
theorem Tryz.strings_ContainsRune_ascii (s : ByteArray) (r : Int) (w : World) (h0 : 0 ≤ r) (h1 : r < 128) :
 Calls Tryz.prog 62 #[.string s,.int .i32 r] w fun e w' => e = .returned (.bool (decide (0 ≤ Lib.indexByte s.data.toList r.toNat.toUInt8))) ∧ w' = w:=Any.strings_ContainsRune_ascii Tryz.lays151 s r w h0 h1
end Go.Proofs
/- (What the port leaves of the builders' contracts: nothing.) -/
namespace Go.Proofs.YtpgdplmndnopbaaGreatDoor
def z3g (b : UInt8) : Bool:=decide (97 ≤ b.toNat) && decide (b.toNat ≤ 122)
def z2d (b : UInt8) : Bool:=decide (48 ≤ b.toNat) && decide (b.toNat ≤ 57)
def z13 (b : UInt8) : Bool:=b.toNat == 32 || b.toNat == 9 || b.toNat == 10 || b.toNat == 13
def z0h (b : UInt8) : Bool:=z3g b || z2d b
def z19 (b : UInt8) : Bool:=[124,38,59,43,60,62,95,91,93,40,41,44,33,123,125].contains b.toNat
def twin (b : UInt8) : Bool:=b.toNat == 124 || b.toNat == 38
def z1l (a : Nat) (l : List UInt8) : Nat:=l.foldl (fun n b => 10 * n + (b.toNat - 48)) a
theorem z17 (a : Nat) (b : UInt8) (r : List UInt8) : z1l a (b :: r) = z1l (10 * a + (b.toNat - 48)) r:=List.foldl_cons ..
def z3e (l : List UInt8) : Bool:=l.all z2d && decide (l.length ≤ 18) && (decide (l.length ≤ 1) || l.head? != some 48) && decide (z1l 0 l < 288230376151711744)
def z0y : List UInt8 → Except Int Int
 | [] => .error 151
 | b :: r => if z3g b then (if r.length + 1 ≤ 8 then .ok 1 else .error 152) else if z3e (b :: r) then .ok 2 else .error 151
structure Tok where
 kind : Int
 text : ByteArray
 place : Int
deriving DecidableEq
def bsOf (l : List UInt8) : ByteArray:=⟨l.toArray⟩
@[simp] theorem z3n (l : List UInt8) : (bsOf l).data.toList = l:=by simp [bsOf]
theorem bsOf_of (s : ByteArray) : bsOf s.data.toList = s:=by simp [bsOf]
theorem bsOf_inj {a b : List UInt8} (h : bsOf a = bsOf b) : a = b:=by rw [← z3n a,h,z3n]
inductive Res where
 | ok (l : List Tok)
 | bad (at_ : Nat) (e : Int)
deriving DecidableEq
def Res.cons (t : Tok) : Res → Res
 | .ok l => .ok (t :: l)
 | .bad a e => .bad a e
def Res.app (p : List Tok) : Res → Res
 | .ok l => .ok (p ++ l)
 | .bad a e => .bad a e
theorem Res.app_nil (r : Res) : Res.app [] r = r:=by cases r <;> rfl
theorem Res.app_cons (p : List Tok) (t : Tok) (r : Res) : Res.app p (Res.cons t r) = Res.app (p ++ [t]) r:=by cases r <;> simp [Res.app,Res.cons]
def z1f (l : List UInt8) : List UInt8:=l.takeWhile z0h
def cutS : Nat → Nat → List UInt8 → Res
 | _,_,[] => .ok []
 | k + 1,a,_ :: r => cutS k (a + 1) r
 | 0,a,b :: r =>
  if z0h b then
   match z0y (b :: z1f r) with
   | .error e => .bad a e
   | .ok k => Res.cons ⟨k,bsOf (b :: z1f r),a⟩ (cutS (z1f r).length (a + 1) r)
  else if z13 b then cutS 0 (a + 1) r
  else if z19 b then
   if twin b && r.head? == some b then Res.cons ⟨3,bsOf [b,b],a⟩ (cutS 1 (a + 1) r)
   else Res.cons ⟨3,bsOf [b],a⟩ (cutS 0 (a + 1) r)
  else .bad a 150
def cut (a : Nat) (l : List UInt8) : Res:=cutS 0 a l
theorem z6s : ∀ (k a : Nat) (l : List UInt8),cutS k a l = cut (a + k) (l.drop k)
 | 0,a,l => by simp [cut]
 | k + 1,a,[] => by simp [cut,cutS]
 | k + 1,a,b :: r => by rw [cutS,z6s k (a + 1) r]; simp; congr 1; omega
@[simp] theorem cut_nil (a : Nat) : cut a [] = .ok []:=rfl
theorem cut_row (a : Nat) (b : UInt8) (r : List UInt8) (h : z0h b = true) : cut a (b :: r) = match z0y (z1f (b :: r)) with
 | .error e => .bad a e
 | .ok k => Res.cons ⟨k,bsOf (z1f (b :: r)),a⟩ (cut (a + (z1f (b :: r)).length) ((b :: r).drop (z1f (b :: r)).length)):=by
 have h2 : z1f (b :: r) = b :: z1f r:=by simp [z1f,h]
 rw [h2,cut,cutS]
 simp only [h,if_true]
 cases z0y (b :: z1f r) with
 | error e => rfl
 | ok k => simp only [z6s]; simp; congr 2; omega
theorem z40 (a : Nat) (b : UInt8) (r : List UInt8) (h : z0h b = false) (hb : z13 b = true) : cut a (b :: r) = cut (a + 1) r:=by
 simp [cut,cutS,h,hb]
theorem z6p (a : Nat) (b : UInt8) (r : List UInt8) (hb : twin b = true) : cut a (b :: b :: r) = Res.cons ⟨3,bsOf [b,b],a⟩ (cut (a + 2) r):=by
 have h : z0h b = false ∧ z13 b = false ∧ z19 b = true:=by
  simp only [twin,Bool.or_eq_true,beq_iff_eq] at hb
  rcases hb with hb | hb <;> simp [z0h,z3g,z2d,z13,z19,hb]
 rw [cut,cutS]
 simp [h,hb,z6s]
theorem z54 (a : Nat) (b : UInt8) (r : List UInt8) (h : z0h b = false) (hb : z13 b = false) (hs : z19 b = true) (ht : (twin b && r.head? == some b) = false) : cut a (b :: r) = Res.cons ⟨3,bsOf [b],a⟩ (cut (a + 1) r):=by
 rw [cut,cutS,h,hb,hs,ht]
 rfl
theorem z5g (a : Nat) (b : UInt8) (r : List UInt8) (h : z0h b = false) (hb : z13 b = false) (hs : z19 b = false) : cut a (b :: r) = .bad a 150:=by
 simp [cut,cutS,h,hb,hs]
theorem rowOf_len (l : List UInt8) : (z1f l).length ≤ l.length:=by
 have:=(List.takeWhile_prefix z0h (l:=l)).length_le
 exact this
theorem z2g (b : UInt8) (r : List UInt8) (h : z0h b = true) : z1f (b :: r) = b :: z1f r:=by simp [z1f,h]
def z0u : List UInt8 → Int
 | [] => 0
 | b :: r =>
  if z0h b then (if r.all z0h then (match z0y (b :: r) with | .ok k => k | .error _ => 0) else 0)
  else if z19 b && (r == [] || (twin b && r == [b])) then 3 else 0
def apart (t rest : List UInt8) : Bool :=
 match t,rest with
 | _,[] => true
 | [],_ => true
 | a :: r,h :: _ => if z0h a then !z0h h else !(r == [] && twin a && h == a)
theorem z5s (t rest : List UInt8) (ht : t.all z0h = true) (hr : rest.head?.map z0h ≠ some true) : z1f (t ++ rest) = t:=by
 induction t with
 | nil => cases rest with
  | nil => rfl
  | cons h r => simp at hr; simp [z1f,hr]
 | cons a t ih =>
  simp only [List.all_cons,Bool.and_eq_true] at ht
  rw [List.cons_append,z2g _ _ ht.1,ih ht.2]
theorem z4t {l : List UInt8} {k : Int} (h : z0y l = .ok k) : k = 1 ∨ k = 2:=by
 cases l with
 | nil => simp [z0y] at h
 | cons b r =>
  simp only [z0y] at h
  split at h
  ·split at h <;> simp at h; exact .inl h.symm
  ·split at h <;> simp at h; exact .inr h.symm
theorem cut_tok (a : Nat) (t rest : List UInt8) (hk : z0u t ≠ 0) (hr : apart t rest = true) : cut a (t ++ rest) = Res.cons ⟨z0u t,bsOf t,a⟩ (cut (a + t.length) rest):=by
 cases t with
 | nil => exact absurd rfl hk
 | cons b r =>
  by_cases hb : z0h b = true
  ·simp only [z0u,hb,if_true] at hk ⊢
   by_cases hall : r.all z0h = true
   ·simp only [hall,if_true] at hk ⊢
    have hro : z1f ((b :: r) ++ rest) = b :: r:=by
     refine z5s _ _ (by simp [hb]; simpa using hall) ?_
     cases rest with
     | nil => simp
     | cons h s => simp [apart,hb] at hr; simp [hr]
    have:=cut_row a b (r ++ rest) hb
    rw [← List.cons_append,hro] at this
    rw [this]
    cases hrk : z0y (b :: r) with
    | error e => rw [hrk] at hk; exact absurd rfl hk
    | ok k => simp
   ·simp [hall] at hk
  ·have hb' : z0h b = false:=by simpa using hb
   simp only [z0u,hb',Bool.false_eq_true,if_false] at hk ⊢
   by_cases hs : z19 b = true
   ·have hbl : z13 b = false:=by
     simp only [z19,List.contains_eq_mem,List.mem_cons,List.not_mem_nil,or_false,decide_eq_true_eq] at hs
     simp only [z13]
     rcases hs with h|h|h|h|h|h|h|h|h|h|h|h|h|h|h <;> simp [h]
    by_cases h1 : r = []
    ·subst h1
     simp only [hs,List.singleton_append]
     rw [z54 a b rest hb' hbl hs ?_]
     ·rfl
     ·cases rest with
      | nil => simp
      | cons h s => simp [apart,hb'] at hr; by_cases ht : twin b = true <;> simp_all
    ·by_cases h2 : (twin b && r == [b]) = true
     ·simp only [Bool.and_eq_true,beq_iff_eq] at h2
      obtain ⟨h3,rfl⟩:=h2
      simp only [hs,h3]
      simpa using z6p a b rest h3
     ·exfalso; apply hk; rw [if_neg]; simp [hs,h1]; simpa using h2
   ·simp [hs] at hk
theorem kindOf_row {b : UInt8} {r : List UInt8} {k : Int} (hb : z0h b = true) (h : z0y (z1f (b :: r)) = .ok k) : z0u (z1f (b :: r)) = k:=by
 have hall : (z1f r).all z0h = true:=by
  exact List.all_takeWhile
 rw [z2g b r hb] at h ⊢
 simp [z0u,hb,hall,h]
theorem rowOf_drop (l : List UInt8) : l = z1f l ++ l.drop (z1f l).length:=by
 induction l with
 | nil => rfl
 | cons b r ih =>
  by_cases hb : z0h b = true
  ·rw [z2g b r hb]
   simpa using ih
  ·simp [z1f,hb]
theorem rowOf_next (l : List UInt8) : ((l.drop (z1f l).length).head?.map z0h) ≠ some true:=by
 induction l with
 | nil => simp [z1f]
 | cons b r ih =>
  by_cases hb : z0h b = true
  ·rw [z2g b r hb]
   simpa using ih
  ·simp [z1f,hb]
theorem cut_ways (b : UInt8) (r : List UInt8) :
 (z13 b = true ∧ z0h b = false ∧ ∀ a,cut a (b :: r) = cut (a + 1) r) ∨
 (∃ e,∀ a,cut a (b :: r) = .bad a e) ∨
 (∃ t rest,t ≠ [] ∧ b :: r = t ++ rest ∧ z0u t ≠ 0 ∧ apart t rest = true ∧ ∀ a,cut a (b :: r) = Res.cons ⟨z0u t,bsOf t,a⟩ (cut (a + t.length) rest)):=by
 by_cases hb : z0h b = true
 ·right
  cases hk : z0y (z1f (b :: r)) with
  | error e => exact .inl ⟨e,fun a => by rw [cut_row a b r hb,hk]⟩
  | ok k =>
   right
   have h1:=kindOf_row hb hk
   refine ⟨z1f (b :: r),(b :: r).drop (z1f (b :: r)).length,by rw [z2g b r hb]; simp,rowOf_drop _,by rw [h1]; rcases z4t hk with h | h <;> simp [h],?_,fun a => by rw [cut_row a b r hb,hk,h1]⟩
   have:=rowOf_next (b :: r)
   cases hd : (b :: r).drop (z1f (b :: r)).length with
   | nil => rw [z2g b r hb]; rfl
   | cons h s =>
    rw [hd] at this
    rw [z2g b r hb]
    simp at this
    simp [apart,hb,this]
 ·have hb' : z0h b = false:=by simpa using hb
  by_cases hbl : z13 b = true
  ·exact .inl ⟨hbl,hb',fun a => z40 a b r hb' hbl⟩
  ·have hbl' : z13 b = false:=by simpa using hbl
   right
   by_cases hs : z19 b = true
   ·right
    by_cases ht : (twin b && r.head? == some b) = true
    ·simp only [Bool.and_eq_true,beq_iff_eq] at ht
     obtain ⟨ht,hh⟩:=ht
     cases r with
     | nil => simp at hh
     | cons c r =>
      simp at hh
      subst hh
      have hk : z0u [c,c] = 3:=by simp [z0u,hb',hs,ht]
      refine ⟨[c,c],r,by simp,rfl,by simp [hk],?_,fun a => by rw [z6p a c r ht,hk]; rfl⟩
      cases r <;> simp [apart,hb']
    ·have ht' : (twin b && r.head? == some b) = false:=by simpa using ht
     have hk : z0u [b] = 3:=by simp [z0u,hb',hs]
     refine ⟨[b],r,by simp,rfl,by simp [hk],?_,fun a => by rw [z54 a b r hb' hbl' hs ht',hk]; rfl⟩
     cases r with
     | nil => rfl
     | cons c s =>
      simp at ht'
      by_cases ht2 : twin b = true
      ·simp [apart,hb',ht2,ht' ht2]
      ·simp [apart,hb',ht2]
   ·exact .inl ⟨150,fun a => z5g a b r hb' hbl' (by simpa using hs)⟩
theorem z6r {P : List UInt8 → Prop} (h0 : P [])
 (h1 : ∀ b r,z13 b = true → z0h b = false → (∀ a,cut a (b :: r) = cut (a + 1) r) → P r → P (b :: r))
 (h2 : ∀ b r e,(∀ a,cut a (b :: r) = .bad a e) → P (b :: r))
 (h3 : ∀ t rest,t ≠ [] → z0u t ≠ 0 → apart t rest = true → (∀ a,cut a (t ++ rest) = Res.cons ⟨z0u t,bsOf t,a⟩ (cut (a + t.length) rest)) → P rest → P (t ++ rest)) (l : List UInt8) : P l:=by
 generalize hn : l.length = n
 induction n using Nat.strongRecOn generalizing l with
 | ind n ih =>
  cases l with
  | nil => exact h0
  | cons b r =>
   rcases cut_ways b r with ⟨x,y,z⟩ | ⟨e,z⟩ | ⟨t,rest,x,y,z,u,v⟩
   ·exact h1 b r x y z (ih r.length (by simp at hn; omega) r rfl)
   ·exact h2 b r e z
   ·rw [y] at v ⊢
    refine h3 t rest x z u v (ih rest.length ?_ rest rfl)
    have:=congrArg List.length y
    have hp : 0 < t.length:=List.length_pos_iff.2 x
    rw [List.length_append] at this
    omega
def Tok.shift (d : Nat) (t : Tok) : Tok:={ t with place:=t.place + d }
def Res.shift (d : Nat) : Res → Res
 | .ok l => .ok (l.map (Tok.shift d))
 | .bad a e => .bad (a + d) e
theorem Res.shift_cons (d : Nat) (t : Tok) (r : Res) : (Res.cons t r).shift d = Res.cons (t.shift d) (r.shift d):=by cases r <;> rfl
theorem cut_shift (d : Nat) (l : List UInt8) : ∀ a,cut (a + d) l = (cut a l).shift d:=by
 induction l using z6r with
 | h0 => intro a; rfl
 | h1 b r _ _ h ih => intro a; rw [h,h,← ih (a + 1)]; congr 1; omega
 | h2 b r e h => intro a; rw [h,h]; rfl
 | h3 t rest _ _ _ h ih =>
  intro a
  rw [h,h,Res.shift_cons,← ih (a + t.length)]
  have : a + d + t.length = a + t.length + d:=by omega
  rw [this]
  simp [Tok.shift]
theorem apart_take (t rest : List UInt8) (m : Nat) (h : apart t rest = true) : apart t (rest.take m) = true:=by
 cases m with
 | zero => cases t <;> simp [apart]
 | succ m => cases rest with
  | nil => simpa using h
  | cons a r => cases t with
   | nil => simp [apart]
   | cons b s => simpa [apart] using h
theorem z6q (l : List UInt8) : ∀ a ts,cut a l = .ok ts → ∀ n,(h : n < ts.length) → ∃ k,(ts[n]).place = (a + k : Nat) ∧ k < l.length ∧ cut a (l.take k) = .ok (ts.take n) ∧ cut (a + k) (l.drop k) = .ok (ts.drop n):=by
 induction l using z6r with
 | h0 => intro a ts h n hn; simp at h; subst h; simp at hn
 | h1 b r hb hr h ih =>
  intro a ts hc n hn
  rw [h] at hc
  obtain ⟨k,e1,e2,e3,e4⟩:=ih (a + 1) ts hc n hn
  refine ⟨k + 1,by rw [e1]; congr 1; omega,by simp; omega,?_,?_⟩
  ·rw [List.take_succ_cons,z40 a b _ hr hb,e3]
  ·rw [List.drop_succ_cons,← e4]; congr 1; omega
 | h2 b r e h => intro a ts hc; rw [h] at hc; cases hc
 | h3 t rest hne hk hap h ih =>
  intro a ts hc n hn
  rw [h] at hc
  cases hr : cut (a + t.length) rest with
  | bad p e => rw [hr] at hc; cases hc
  | ok us =>
   rw [hr] at hc
   simp only [Res.cons,Res.ok.injEq] at hc
   subst hc
   cases n with
   | zero => exact ⟨0,by simp,by simp; have:=List.length_pos_iff.2 hne; omega,by simp,by simp [h,hr,Res.cons]⟩
   | succ n =>
    obtain ⟨k,e1,e2,e3,e4⟩:=ih (a + t.length) us hr n (by simpa using hn)
    refine ⟨t.length + k,by simp only [List.getElem_cons_succ]; rw [e1]; congr 1; omega,by simp; omega,?_,?_⟩
    ·rw [List.take_append,List.take_of_length_le (by omega),show t.length + k - t.length = k from by omega,cut_tok a t _ hk (apart_take t rest k hap),e3]
     rfl
    ·rw [List.drop_append,List.drop_of_length_le (by omega),show t.length + k - t.length = k from by omega,List.nil_append,List.drop_succ_cons,← e4]
     congr 1; omega
theorem z2t (l : List UInt8) : ∀ a p e,cut a l = .bad p e → ∃ k,p = a + k ∧ k < l.length ∧ (∃ ts,cut a (l.take k) = .ok ts) ∧ cut p (l.drop k) = .bad p e:=by
 induction l using z6r with
 | h0 => intro a p e h; simp at h
 | h1 b r hb hr h ih =>
  intro a p e hc
  rw [h] at hc
  obtain ⟨k,e1,e2,⟨ts,e3⟩,e4⟩:=ih (a + 1) p e hc
  exact ⟨k + 1,by omega,by simp; omega,⟨ts,by rw [List.take_succ_cons,z40 a b _ hr hb,e3]⟩,by simpa using e4⟩
 | h2 b r e h =>
  intro a p e' hc
  rw [h] at hc
  cases hc
  exact ⟨0,rfl,by simp,⟨[],rfl⟩,by simpa using h a⟩
 | h3 t rest hne hk hap h ih =>
  intro a p e hc
  rw [h] at hc
  cases hr : cut (a + t.length) rest with
  | ok us => rw [hr] at hc; cases hc
  | bad p' e' =>
   rw [hr] at hc
   simp only [Res.cons] at hc
   cases hc
   obtain ⟨k,e1,e2,⟨ts,e3⟩,e4⟩:=ih _ _ _ hr
   refine ⟨t.length + k,by omega,by simp; omega,⟨⟨z0u t,bsOf t,a⟩ :: ts,?_⟩,?_⟩
   ·rw [List.take_append,List.take_of_length_le (by omega),show t.length + k - t.length = k from by omega,cut_tok a t _ hk (apart_take t rest k hap),e3]
    rfl
   ·rw [List.drop_append,List.drop_of_length_le (by omega),show t.length + k - t.length = k from by omega,List.nil_append,e4]
/-! ## Gluing -/
theorem cut_kinds (l : List UInt8) : ∀ a ts,cut a l = .ok ts → ∀ t ∈ ts,z0u t.text.data.toList = t.kind ∧ t.kind ≠ 0 ∧ 0 ≤ t.place:=by
 induction l using z6r with
 | h0 => intro a ts h; simp at h; subst h; simp
 | h1 b r hb hr h ih => intro a ts hc; rw [h] at hc; exact ih _ _ hc
 | h2 b r e h => intro a ts hc; rw [h] at hc; cases hc
 | h3 t rest hne hk hap h ih =>
  intro a ts hc
  rw [h] at hc
  cases hr : cut (a + t.length) rest with
  | bad p e => rw [hr] at hc; cases hc
  | ok us =>
   rw [hr] at hc
   simp only [Res.cons,Res.ok.injEq] at hc
   subst hc
   intro u hu
   rcases List.mem_cons.1 hu with rfl | hu
   ·exact ⟨by simp,hk,by simp⟩
   ·exact ih _ _ hr u hu
theorem cut_single (t : List UInt8) (ts : List Tok) : (cut 0 t = .ok ts ∧ ts.length = 1 ∧ ts.head?.map (·.text) = some (bsOf t)) ↔ (z0u t ≠ 0 ∧ ts = [⟨z0u t,bsOf t,0⟩]):=by
 constructor
 ·rintro ⟨h,h1,h2⟩
  obtain ⟨x,rfl⟩ : ∃ x,ts = [x]:=List.length_eq_one_iff.1 h1
  simp at h2
  have hk:=cut_kinds t 0 [x] h x (by simp)
  rw [h2,z3n] at hk
  have:=cut_tok 0 t [] (by rw [hk.1]; exact hk.2.1) (by cases t <;> rfl)
  rw [List.append_nil,h] at this
  simp only [cut_nil,Res.cons,Res.ok.injEq] at this
  exact ⟨by rw [hk.1]; exact hk.2.1,by simpa using this⟩
 ·rintro ⟨h,rfl⟩
  have:=cut_tok 0 t [] h (by cases t <;> rfl)
  rw [List.append_nil] at this
  exact ⟨by simpa [Res.cons] using this,rfl,by simp⟩
end Go.Proofs.YtpgdplmndnopbaaGreatDoor
namespace Go.Proofs.YtpgdplmndnopbaaGreatDoor
open Go.RowKit Go.Shelf
theorem parse58_any (t : ByteArray) (hne : t.size ≠ 0) (hmax : t.size ≤ 9223372036854775806) (w : World) :
 Calls Tryz.prog 173 #[.string t,.int .i64 10,.int .i64 62] w fun e w' => e = .returned (Lib.uintTupleM 185 4611686018427387903 (Lib.parseUintM 4611686018427387903 0 t.data.toList)) ∧ w' = Lib.bytesWorld w 5 t:=by
 have hemp : t.toList.isEmpty = false:=by
  rw [← decide_eq_emptyBytes]
  exact decide_eq_false (fun h => hne (by rw [h]; rfl))
 have hcv:=Lib.run_convert_string_bytes (P:=Tryz.prog) w 9 65 5 t (u:=.string) Tryz.underlying9 Tryz.underlying65 Tryz.underlying5
 have hB : ∀ j,j < t.size → (Lib.bytesWorld w 5 t).cell? ⟨w.heap.size,j,none⟩ = some (.int .u8 (t.data.toList.getD j 0).toNat):=fun j hj => Lib.bytesWorld_cell w 5 t j hj
 obtain ⟨W1,hW1⟩ : ∃ W1,W1 = Lib.bytesWorld w 5 t:=⟨_,rfl⟩
 rw [← hW1] at hcv hB ⊢
 clear hW1
 obtain ⟨bs,hL⟩ : ∃ bs,bs = t.data.toList:=⟨_,rfl⟩
 have hLn : bs.length = t.size:=by rw [hL,Lib.size_eq]
 rw [← hL] at hB ⊢
 clear hL
 have hmv : IntKind.u64.wrap (IntKind.u64.wrap 4611686018427387904 - 1) = 4611686018427387903:=by
  rw [IntKind.wrap_u64,IntKind.wrap_u64]
  decide
 go_enter Tryz.func173,Tryz.ntmps173
 go_wp2
 go_loop [12,13,101] (fun vu vn vi => ∃ (k acc : Nat) (a : Int),vu = .bool false ∧ vn = .int .u64 a ∧ vi = .int .i64 k ∧ k ≤ t.size ∧ Hid (a = (acc : Int) ∧ acc ≤ 4611686018427387903 ∧ Lib.parseUintM 4611686018427387903 0 bs = Lib.parseUintM 4611686018427387903 acc (bs.drop k)))
  (fun _ _ vi => t.size - (intOf vi).toNat)
 case atStart => exact ⟨0,0,0,rfl,rfl,rfl,by omega,rfl,by omega,rfl⟩
 case round =>
  obtain ⟨k,acc,a,rfl,rfl,rfl,hk,hh⟩:=hrel
  obtain ⟨ha,hacc,hdec⟩:=hh.out
  clear hh
  have a0 : 0 ≤ a:=by omega
  have a1 : a ≤ 4611686018427387903:=by omega
  by_cases hkn : k < t.size
  ·have hc:=hB k hkn
   have hdrop : bs.drop k = bs[k]'(by omega) :: bs.drop (k + 1):=List.drop_eq_getElem_cons (by omega)
   have hget : bs.getD k 0 = bs[k]'(by omega):=by simp [List.getD,List.getElem?_eq_getElem (show k < bs.length by omega)]
   rw [hdrop] at hdec
   rw [hget] at hc
   generalize bs[k]'(by omega) = c at hc hdec
   have hc256 : c.toNat < 256:=c.toNat_lt
   clear hB hdrop hget
   by_cases hdig : 48 ≤ c.toNat ∧ c.toNat ≤ 57
   ·obtain ⟨hd0,hd1⟩:=hdig
    by_cases hcut : 1844674407370955162 ≤ acc
    ·have hF : Lib.parseUintM 4611686018427387903 acc (c :: bs.drop (k + 1)) = .range:=by simp [Lib.parseUintM,hd0,hd1,hcut]
     rw [hF] at hdec
     have icut : 1844674407370955162 ≤ a:=by omega
     clear hcut hacc hF ha
     go_wp2
     go_ret2
     exact ⟨rfl,rfl⟩
    ·by_cases hov : 4611686018427387903 < acc * 10 + (c.toNat - 48)
     ·have hF : Lib.parseUintM 4611686018427387903 acc (c :: bs.drop (k + 1)) = .range:=by simp [Lib.parseUintM,hd0,hd1,hcut,hov]
      rw [hF] at hdec
      have icut : a < 1844674407370955162:=by omega
      have iov : 4611686018427387903 < a * 10 + ((c.toNat : Int) - 48):=by omega
      by_cases hw64 : 18446744073709551616 ≤ a * 10 + ((c.toNat : Int) - 48)
      ·have hwr : IntKind.u64.wrap (a * 10 + ((c.toNat : Int) - 48)) = a * 10 + ((c.toNat : Int) - 48) - 18446744073709551616:=by
        rw [IntKind.wrap_u64]
        omega
       clear hcut hacc hF hov ha
       go_wp2
       go_ret2
       exact ⟨rfl,rfl⟩
      ·have hw2 : a * 10 + ((c.toNat : Int) - 48) < 18446744073709551616:=by omega
       have hwr : IntKind.u64.wrap (a * 10 + ((c.toNat : Int) - 48)) = a * 10 + ((c.toNat : Int) - 48):=by
        rw [IntKind.wrap_u64]
        omega
       clear hcut hacc hF hov ha hw64
       go_wp2
       go_ret2
       exact ⟨rfl,rfl⟩
     ·have hF : Lib.parseUintM 4611686018427387903 acc (c :: bs.drop (k + 1)) = Lib.parseUintM 4611686018427387903 (acc * 10 + (c.toNat - 48)) (bs.drop (k + 1)):=by simp [Lib.parseUintM,hd0,hd1,hcut,hov]
      have HN : Hid (a * 10 + ((c.toNat : Int) - 48) = ((acc * 10 + (c.toNat - 48) : Nat) : Int) ∧ acc * 10 + (c.toNat - 48) ≤ 4611686018427387903 ∧ Lib.parseUintM 4611686018427387903 0 bs = Lib.parseUintM 4611686018427387903 (acc * 10 + (c.toNat - 48)) (bs.drop (k + 1))):=Lib.hid ⟨by omega,by omega,hdec.trans hF⟩
      have icut : a < 1844674407370955162:=by omega
      have iov : a * 10 + ((c.toNat : Int) - 48) ≤ 4611686018427387903:=by omega
      clear hcut hacc hF hov hdec ha
      go_wp2
      refine ⟨⟨k + 1,acc * 10 + (c.toNat - 48),a * 10 + ((c.toNat : Int) - 48),rfl,(by first | rfl | (congr 1; omega)),(by first | rfl | (congr 1; omega)),by omega,HN⟩,by simp [intOf]; omega⟩
   ·have hF : Lib.parseUintM 4611686018427387903 acc (c :: bs.drop (k + 1)) = Lib.NumEnd.syntax:=by simp [Lib.parseUintM,hdig]
    rw [hF] at hdec
    clear hacc hF ha
    have hv0:=bits_lo_u8 .or (c.toNat : Int) 32
    have hv1:=bits_hi_u8 .or (c.toNat : Int) 32
    have hu0:=bits_lo_u8 .or 95 32
    have hu1:=bits_hi_u8 .or 95 32
    go_wp2
    all_goals go_ret2
    all_goals first | exact ⟨rfl,rfl⟩ | exact ⟨by rw [hdec]; rfl,rfl⟩
  ·have hkk : k = t.size:=by omega
   subst hkk
   have hF : Lib.parseUintM 4611686018427387903 acc (bs.drop t.size) = .ok acc:=by rw [List.drop_eq_nil_of_le (by omega)]; rfl
   rw [hF] at hdec
   subst ha
   clear hacc hF a0 a1
   go_wp2
   go_ret2
   exact ⟨rfl,rfl⟩
end Go.Proofs.YtpgdplmndnopbaaGreatDoor
