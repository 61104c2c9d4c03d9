/-
  Contracts of Go's library at this seat, in plain words (strconv_Atoi_ok).
-/
import Derived.Shelf.Strings.Builder1
import Derived.Shelf.Small.Wraps
import Derived.Shelf.Strings.BuilderF
import Derived.Shelf.Strings.BuilderK
import Derived.Shelf.Strconv.Atoi
import Derived.Shelf.Strconv.Itoa0
import Derived.Shelf.Strconv.Itoa1
import Derived.Shelf.LaysM
import Derived.Shelf.Strconv.Itoa2
import Derived.Shelf.Strconv.Itoa3
import Derived.Shelf.Strconv.AtoiErrFast
import Derived.Shelf.Strconv.ParseIntEmpty
import Derived.Shelf.Strconv.AtoiFail
import Derived.Shelf.Strconv.Clone
import Derived.Shelf.Strconv.SyntaxError
import Derived.Shelf.LaysC
import Derived.Shelf.Strconv.ToError
import Derived.Shelf.Strconv.AtoiErr
import Derived.Shelf.Strconv.ErrVar
import Derived.Shelf.Strconv.Lower
import Derived.Shelf.Strconv.ParseUint10
import Derived.Shelf.Strconv.ParseUint10Empty
import Derived.Shelf.Strconv.ParseUint10Any
import Derived.Shelf.Strconv.ParseInt10
import Derived.Shelf.Strconv.AtoiLong
import Derived.Shelf.Strconv.AtoiInnerAll
import Derived.Shelf.Strconv.RangeError
import Derived.Shelf.Strconv.ToErrorRange
import Derived.Shelf.Strconv.AtoiAll
import Derived.Shelf.Strconv.ErrVarAll
import Derived.Shelf.Strings.BuilderCap
import Derived.Shelf.Slices.Turned
import Derived.Shelf.Slices.Equal
import Derived.Ground.Names2Prog
import Derived.Shelf.Slices.Clone
import Derived.Shelf.Slices.Empties2
import Derived.Ground.SlgnProg
import Derived.Shelf.SlicesE.Clone
import Derived.Test.YtaomlfbcfmmhlaaDoorProg
import Derived.Test.YtaomlfbcfmmhlaaDoorShelf
namespace Go.Proofs
def Tryd.laysC172_ren : Go.Shelf.Ren := ⟨fun | 172 => 28 | 244 => 71 | 245 => 72 | 247 => 126 | 279 => 127 | 280 => 128 | 281 => 129 | 282 => 130 | 287 => 158 | 316 => 159 | 171 => 24 | 205 => 160 | 321 => 187 | 322 => 188 | 243 => 66 | 246 => 114 | 283 => 150 | 284 => 151 | 285 => 152 | 286 => 153 | 129 => 179 | 317 => 178 | 318 => 180 | 319 => 181 | 320 => 182 | 337 => 195 | 338 => 196 | n => n, fun | 9 => 9 | 3 => 3 | 75 => 57 | 76 => 58 | 4 => 4 | 5 => 5 | 167 => 171 | 37 => 131 | 0 => 0 | 85 => 172 | 2 => 2 | 168 => 174 | 53 => 197 | 175 => 202 | 46 => 204 | 210 => 207 | 127 => 221 | 145 => 233 | 143 => 231 | 21 => 21 | 171 => 196 | 173 => 200 | 212 => 222 | 51 => 223 | 20 => 20 | 213 => 224 | 232 => 245 | 233 => 246 | 80 => 195 | n => n, fun | 15 => 2 | 16 => 3 | 17 => 5 | 18 => 8 | 19 => 9 | n => n⟩
theorem Tryd.laysC172 : Go.Proofs.LaysC.n172 Tryd.prog Tryd.laysC172_ren := {
  mixed := by kernel_rfl
  f129 := Tryd.func179.trans (congrArg some (by kernel_rfl))
  f171 := Tryd.func24.trans (congrArg some (by kernel_rfl))
  f172 := Tryd.func28.trans (congrArg some (by kernel_rfl))
  f205 := Tryd.func160.trans (congrArg some (by kernel_rfl))
  f243 := Tryd.func66.trans (congrArg some (by kernel_rfl))
  f244 := Tryd.func71.trans (congrArg some (by kernel_rfl))
  f245 := Tryd.func72.trans (congrArg some (by kernel_rfl))
  f246 := Tryd.func114.trans (congrArg some (by kernel_rfl))
  f247 := Tryd.func126.trans (congrArg some (by kernel_rfl))
  f279 := Tryd.func127.trans (congrArg some (by kernel_rfl))
  f280 := Tryd.func128.trans (congrArg some (by kernel_rfl))
  f281 := Tryd.func129.trans (congrArg some (by kernel_rfl))
  f282 := Tryd.func130.trans (congrArg some (by kernel_rfl))
  f283 := Tryd.func150.trans (congrArg some (by kernel_rfl))
  f284 := Tryd.func151.trans (congrArg some (by kernel_rfl))
  f285 := Tryd.func152.trans (congrArg some (by kernel_rfl))
  f286 := Tryd.func153.trans (congrArg some (by kernel_rfl))
  f287 := Tryd.func158.trans (congrArg some (by kernel_rfl))
  f316 := Tryd.func159.trans (congrArg some (by kernel_rfl))
  f317 := Tryd.func178.trans (congrArg some (by kernel_rfl))
  f318 := Tryd.func180.trans (congrArg some (by kernel_rfl))
  f319 := Tryd.func181.trans (congrArg some (by kernel_rfl))
  f320 := Tryd.func182.trans (congrArg some (by kernel_rfl))
  f321 := Tryd.func187.trans (congrArg some (by kernel_rfl))
  f322 := Tryd.func188.trans (congrArg some (by kernel_rfl))
  f337 := Tryd.func195.trans (congrArg some (by kernel_rfl))
  f338 := Tryd.func196.trans (congrArg some (by kernel_rfl))
  t0 := Tryd.underlying0
  a0 := Tryd.isAgg0
  z0 := Tryd.sizeOf0
  v0 := Tryd.zeroValue0
  t2 := Tryd.underlying2
  a2 := Tryd.isAgg2
  z2 := Tryd.sizeOf2
  v2 := Tryd.zeroValue2
  t3 := Tryd.underlying3
  a3 := Tryd.isAgg3
  z3 := Tryd.sizeOf3
  v3 := Tryd.zeroValue3
  t4 := Tryd.underlying4
  a4 := Tryd.isAgg4
  z4 := Tryd.sizeOf4
  v4 := Tryd.zeroValue4
  t5 := Tryd.underlying5
  a5 := Tryd.isAgg5
  z5 := Tryd.sizeOf5
  v5 := Tryd.zeroValue5
  t9 := Tryd.underlying9
  a9 := Tryd.isAgg9
  z9 := Tryd.sizeOf9
  v9 := Tryd.zeroValue9
  t20 := Tryd.underlying20
  a20 := Tryd.isAgg20
  z20 := Tryd.sizeOf20
  v20 := Tryd.zeroValue20
  t21 := Tryd.underlying21
  a21 := Tryd.isAgg21
  z21 := Tryd.sizeOf21
  v21 := Tryd.zeroValue21
  t37 := Tryd.underlying131
  a37 := Tryd.isAgg131
  z37 := Tryd.sizeOf131
  v37 := Tryd.zeroValue131
  t46 := Tryd.underlying204
  a46 := Tryd.isAgg204
  z46 := Tryd.sizeOf204
  v46 := Tryd.zeroValue204
  t51 := Tryd.underlying223
  a51 := Tryd.isAgg223
  z51 := Tryd.sizeOf223
  v51 := Tryd.zeroValue223
  t53 := Tryd.underlying197
  a53 := Tryd.isAgg197
  z53 := Tryd.sizeOf197
  v53 := Tryd.zeroValue197
  t75 := Tryd.underlying57
  a75 := Tryd.isAgg57
  z75 := Tryd.sizeOf57
  v75 := Tryd.zeroValue57
  t76 := Tryd.underlying58
  a76 := Tryd.isAgg58
  z76 := Tryd.sizeOf58
  v76 := Tryd.zeroValue58
  t85 := Tryd.underlying172
  a85 := Tryd.isAgg172
  z85 := Tryd.sizeOf172
  v85 := Tryd.zeroValue172
  t127 := Tryd.underlying221
  a127 := Tryd.isAgg221
  z127 := Tryd.sizeOf221
  v127 := Tryd.zeroValue221
  t143 := Tryd.underlying231
  a143 := Tryd.isAgg231
  z143 := Tryd.sizeOf231
  v143 := Tryd.zeroValue231
  t145 := Tryd.underlying233
  a145 := Tryd.isAgg233
  z145 := Tryd.sizeOf233
  v145 := Tryd.zeroValue233
  t167 := Tryd.underlying171
  a167 := Tryd.isAgg171
  z167 := Tryd.sizeOf171
  v167 := Tryd.zeroValue171
  t168 := Tryd.underlying174
  a168 := Tryd.isAgg174
  z168 := Tryd.sizeOf174
  v168 := Tryd.zeroValue174
  t171 := Tryd.underlying196
  a171 := Tryd.isAgg196
  z171 := Tryd.sizeOf196
  v171 := Tryd.zeroValue196
  t173 := Tryd.underlying200
  a173 := Tryd.isAgg200
  z173 := Tryd.sizeOf200
  v173 := Tryd.zeroValue200
  t175 := Tryd.underlying202
  a175 := Tryd.isAgg202
  z175 := Tryd.sizeOf202
  v175 := Tryd.zeroValue202
  t210 := Tryd.underlying207
  a210 := Tryd.isAgg207
  z210 := Tryd.sizeOf207
  v210 := Tryd.zeroValue207
  t212 := Tryd.underlying222
  a212 := Tryd.isAgg222
  z212 := Tryd.sizeOf222
  v212 := Tryd.zeroValue222
  t213 := Tryd.underlying224
  a213 := Tryd.isAgg224
  z213 := Tryd.sizeOf224
  t232 := Tryd.underlying245
  a232 := Tryd.isAgg245
  z232 := Tryd.sizeOf245
  v232 := Tryd.zeroValue245
  t233 := Tryd.underlying246
  a233 := Tryd.isAgg246
  z233 := Tryd.sizeOf246
  v233 := Tryd.zeroValue246
  g15 := by kernel_rfl
  g16 := by kernel_rfl
  g17 := by kernel_rfl
  g18 := by kernel_rfl
  g19 := by kernel_rfl
  t80 := Tryd.underlying195
  a80 := Tryd.isAgg195
  z80 := Tryd.sizeOf195
  v80 := Tryd.zeroValue195
  i0 := by kernel_rfl
  i2 := by kernel_rfl
  i3 := by kernel_rfl
  i4 := by kernel_rfl
  i5 := by kernel_rfl
  i9 := by kernel_rfl
  i20 := by kernel_rfl
  i21 := by kernel_rfl
  i37 := by kernel_rfl
  i46 := by kernel_rfl
  i51 := by kernel_rfl
  i53 := by kernel_rfl
  i75 := by kernel_rfl
  i76 := by kernel_rfl
  i80 := by kernel_rfl
  i85 := by kernel_rfl
  i127 := by kernel_rfl
  i143 := by kernel_rfl
  i145 := by kernel_rfl
  i167 := by kernel_rfl
  i168 := by kernel_rfl
  i171 := by kernel_rfl
  i173 := by kernel_rfl
  i175 := by kernel_rfl
  i210 := by kernel_rfl
  i212 := by kernel_rfl
  i232 := by kernel_rfl
  i233 := by kernel_rfl
  m15 := by kernel_rfl
  m16 := by kernel_rfl
  m17 := by kernel_rfl
  m18 := by kernel_rfl
  m19 := by kernel_rfl
  c0 := by kernel_rfl
  c2 := by kernel_rfl
  c3 := by kernel_rfl
  c4 := by kernel_rfl
  c5 := by kernel_rfl
  c9 := by kernel_rfl
  c20 := by kernel_rfl
  c21 := by kernel_rfl
  c37 := by kernel_rfl
  c46 := by kernel_rfl
  c51 := by kernel_rfl
  c53 := by kernel_rfl
  c75 := by kernel_rfl
  c76 := by kernel_rfl
  c80 := by kernel_rfl
  c85 := by kernel_rfl
  c127 := by kernel_rfl
  c143 := by kernel_rfl
  c145 := by kernel_rfl
  c167 := by kernel_rfl
  c168 := by kernel_rfl
  c171 := by kernel_rfl
  c173 := by kernel_rfl
  c175 := by kernel_rfl
  c210 := by kernel_rfl
  c212 := by kernel_rfl
  c213 := by kernel_rfl
  c232 := by kernel_rfl
  c233 := by kernel_rfl }
open Go.RowKit in
/-- strconv.Atoi, AT EVERY STRING THAT SPELLS AN int ('Lib.atoiAll .. = .ok v'; of whatever length: leading zeros count): v, AND NO ERROR. The world: as it was, or with the one new row that '[]byte(..)' lays. (LAID: no walk: one application.) -/
theorem Tryd.strconv_Atoi_ok (s : ByteArray) (hmax : s.size ≤ 9223372036854775806) (v : Int) (h : Lib.atoiAll s.data.toList = .ok v) (w : World) :
    Calls Tryd.prog 28 #[.string s] w fun e w' => e = .returned (.tuple #[.int .i64 v, .nilIface]) ∧ (w' = w ∨ ∃ t, w' = Lib.bytesWorld w 5 t) := Any.strconv_Atoi_ok Tryd.laysC172 s hmax v h w
end Go.Proofs
