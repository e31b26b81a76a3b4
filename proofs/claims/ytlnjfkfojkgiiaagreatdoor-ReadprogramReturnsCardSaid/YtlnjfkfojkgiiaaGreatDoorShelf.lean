/-
  DERIVED: THE SHELF's CONTRACTS AT THIS DUMP, IN PLAIN WORDS (tools/lay-plain.mjs out of 'YtlnjfkfojkgiiaaGreatDoorShelf.lean', which tools/lay-shelf.mjs wrote): THE SAME DECLARATIONS UNDER THE SAME NAMES: 'import', 'namespace', 'open', 'def', 'theorem' AND NOTHING ELSE: no command of the shelf's: FOR A HAND-IN. Each laying: the table of numbers ('.._ren') and one theorem, a field a fact of the dump's own or the kernel's comparison; each contract: ONE APPLICATION.
-/
import Derived.Shelf.Strings.SlTrimAscii
import Derived.Shelf.Strings.Trim
import Derived.Shelf.Small.Utf8
import Derived.Shelf.Small.Strs
import Derived.Shelf.Strconv.Atoi
import Derived.Shelf.Strconv.AtoiErrFast
import Derived.Shelf.Strconv.ParseIntEmpty
import Derived.Shelf.Strconv.AtoiFail
import Derived.Shelf.LaysM
import Derived.Shelf.Strconv.Clone
import Derived.Shelf.Strconv.SyntaxError
import Derived.Shelf.LaysC
import Derived.Shelf.Strconv.ToError
import Derived.Shelf.Strconv.Lower
import Derived.Shelf.Strconv.ParseUint10
import Derived.Shelf.Strconv.ParseUint10Empty
import Derived.Shelf.Strconv.ParseUint10Any
import Derived.Shelf.Strconv.ParseInt10
import Derived.Shelf.Strconv.AtoiLong
import Derived.Shelf.Strconv.AtoiInnerAll
import Derived.Shelf.Strconv.RangeError
import Derived.Shelf.Strconv.ToErrorRange
import Derived.Shelf.Strconv.AtoiAll
import Derived.Shelf.Strings.Search1
import Derived.Shelf.Strings.Runes
import Derived.Shelf.Strings.AsciiSet
import Derived.Shelf.Unicode.DecodeSlow
import Derived.Test.YtlnjfkfojkgiiaaGreatDoorProg
namespace Go.Proofs
open Go.Shelf
def Tryz.aES : Go.Shelf.Ren := ⟨fun | 172 => 198 | 244 => 221 | 245 => 222 | 247 => 229 | 279 => 230 | 280 => 231 | 281 => 232 | 282 => 233 | 287 => 237 | 316 => 238 | 171 => 240 | 205 => 239 | 321 => 242 | 322 => 243 | 243 => 244 | 246 => 246 | 283 => 247 | 284 => 248 | 285 => 249 | 286 => 250 | 129 => 252 | 317 => 251 | 318 => 253 | 319 => 254 | 320 => 255 | 337 => 256 | 338 => 257 | n => n, fun | 9 => 9 | 3 => 3 | 75 => 131 | 76 => 269 | 4 => 4 | 5 => 5 | 167 => 295 | 37 => 296 | 0 => 0 | 85 => 297 | 2 => 2 | 168 => 299 | 53 => 304 | 175 => 305 | 46 => 136 | 210 => 309 | 127 => 312 | 145 => 315 | 143 => 313 | 21 => 21 | 171 => 321 | 173 => 324 | 212 => 327 | 51 => 328 | 20 => 20 | 213 => 329 | 232 => 332 | 233 => 333 | 80 => 140 | n => n, fun | 15 => 4 | 16 => 5 | 17 => 6 | 18 => 7 | 19 => 8 | n => n⟩
theorem Tryz.aET : Go.Proofs.Lays.n172 Tryz.prog Tryz.aES := {
 mixed := by kernel_rfl
 f129 := Tryz.func252.trans (congrArg some (by kernel_rfl))
 f171 := Tryz.func240.trans (congrArg some (by kernel_rfl))
 f172 := Tryz.func198.trans (congrArg some (by kernel_rfl))
 f205 := Tryz.func239.trans (congrArg some (by kernel_rfl))
 f243 := Tryz.func244.trans (congrArg some (by kernel_rfl))
 f244 := Tryz.func221.trans (congrArg some (by kernel_rfl))
 f245 := Tryz.func222.trans (congrArg some (by kernel_rfl))
 f246 := Tryz.func246.trans (congrArg some (by kernel_rfl))
 f247 := Tryz.func229.trans (congrArg some (by kernel_rfl))
 f279 := Tryz.func230.trans (congrArg some (by kernel_rfl))
 f280 := Tryz.func231.trans (congrArg some (by kernel_rfl))
 f281 := Tryz.func232.trans (congrArg some (by kernel_rfl))
 f282 := Tryz.func233.trans (congrArg some (by kernel_rfl))
 f283 := Tryz.func247.trans (congrArg some (by kernel_rfl))
 f284 := Tryz.func248.trans (congrArg some (by kernel_rfl))
 f285 := Tryz.func249.trans (congrArg some (by kernel_rfl))
 f286 := Tryz.func250.trans (congrArg some (by kernel_rfl))
 f287 := Tryz.func237.trans (congrArg some (by kernel_rfl))
 f316 := Tryz.func238.trans (congrArg some (by kernel_rfl))
 f317 := Tryz.func251.trans (congrArg some (by kernel_rfl))
 f318 := Tryz.func253.trans (congrArg some (by kernel_rfl))
 f319 := Tryz.func254.trans (congrArg some (by kernel_rfl))
 f320 := Tryz.func255.trans (congrArg some (by kernel_rfl))
 f321 := Tryz.func242.trans (congrArg some (by kernel_rfl))
 f322 := Tryz.func243.trans (congrArg some (by kernel_rfl))
 f337 := Tryz.func256.trans (congrArg some (by kernel_rfl))
 f338 := Tryz.func257.trans (congrArg some (by kernel_rfl))
 t0 := Tryz.underlying0
 a0 := Tryz.isAgg0
 z0 := Tryz.sizeOf0
 v0 := Tryz.zeroValue0
 t2 := Tryz.underlying2
 a2 := Tryz.isAgg2
 z2 := Tryz.sizeOf2
 v2 := Tryz.zeroValue2
 t3 := Tryz.underlying3
 a3 := Tryz.isAgg3
 z3 := Tryz.sizeOf3
 v3 := Tryz.zeroValue3
 t4 := Tryz.underlying4
 a4 := Tryz.isAgg4
 z4 := Tryz.sizeOf4
 v4 := Tryz.zeroValue4
 t5 := Tryz.underlying5
 a5 := Tryz.isAgg5
 z5 := Tryz.sizeOf5
 v5 := Tryz.zeroValue5
 t9 := Tryz.underlying9
 a9 := Tryz.isAgg9
 z9 := Tryz.sizeOf9
 v9 := Tryz.zeroValue9
 t20 := Tryz.underlying20
 a20 := Tryz.isAgg20
 z20 := Tryz.sizeOf20
 v20 := Tryz.zeroValue20
 t21 := Tryz.underlying21
 a21 := Tryz.isAgg21
 z21 := Tryz.sizeOf21
 v21 := Tryz.zeroValue21
 t37 := Tryz.underlying296
 a37 := Tryz.isAgg296
 z37 := Tryz.sizeOf296
 v37 := Tryz.zeroValue296
 t46 := Tryz.underlying136
 a46 := Tryz.isAgg136
 z46 := Tryz.sizeOf136
 v46 := Tryz.zeroValue136
 t51 := Tryz.underlying328
 a51 := Tryz.isAgg328
 z51 := Tryz.sizeOf328
 v51 := Tryz.zeroValue328
 t53 := Tryz.underlying304
 a53 := Tryz.isAgg304
 z53 := Tryz.sizeOf304
 v53 := Tryz.zeroValue304
 t75 := Tryz.underlying131
 a75 := Tryz.isAgg131
 z75 := Tryz.sizeOf131
 v75 := Tryz.zeroValue131
 t76 := Tryz.underlying269
 a76 := Tryz.isAgg269
 z76 := Tryz.sizeOf269
 v76 := Tryz.zeroValue269
 t85 := Tryz.underlying297
 a85 := Tryz.isAgg297
 z85 := Tryz.sizeOf297
 v85 := Tryz.zeroValue297
 t127 := Tryz.underlying312
 a127 := Tryz.isAgg312
 z127 := Tryz.sizeOf312
 v127 := Tryz.zeroValue312
 t143 := Tryz.underlying313
 a143 := Tryz.isAgg313
 z143 := Tryz.sizeOf313
 v143 := Tryz.zeroValue313
 t145 := Tryz.underlying315
 a145 := Tryz.isAgg315
 z145 := Tryz.sizeOf315
 v145 := Tryz.zeroValue315
 t167 := Tryz.underlying295
 a167 := Tryz.isAgg295
 z167 := Tryz.sizeOf295
 v167 := Tryz.zeroValue295
 t168 := Tryz.underlying299
 a168 := Tryz.isAgg299
 z168 := Tryz.sizeOf299
 v168 := Tryz.zeroValue299
 t171 := Tryz.underlying321
 a171 := Tryz.isAgg321
 z171 := Tryz.sizeOf321
 v171 := Tryz.zeroValue321
 t173 := Tryz.underlying324
 a173 := Tryz.isAgg324
 z173 := Tryz.sizeOf324
 v173 := Tryz.zeroValue324
 t175 := Tryz.underlying305
 a175 := Tryz.isAgg305
 z175 := Tryz.sizeOf305
 v175 := Tryz.zeroValue305
 t210 := Tryz.underlying309
 a210 := Tryz.isAgg309
 z210 := Tryz.sizeOf309
 v210 := Tryz.zeroValue309
 t212 := Tryz.underlying327
 a212 := Tryz.isAgg327
 z212 := Tryz.sizeOf327
 v212 := Tryz.zeroValue327
 t213 := Tryz.underlying329
 a213 := Tryz.isAgg329
 z213 := Tryz.sizeOf329
 t232 := Tryz.underlying332
 a232 := Tryz.isAgg332
 z232 := Tryz.sizeOf332
 v232 := Tryz.zeroValue332
 t233 := Tryz.underlying333
 a233 := Tryz.isAgg333
 z233 := Tryz.sizeOf333
 v233 := Tryz.zeroValue333
 g15 := by kernel_rfl
 g16 := by kernel_rfl
 g17 := by kernel_rfl
 g18 := by kernel_rfl
 g19 := by kernel_rfl }
open Go.RowKit in
theorem Tryz.strconv_Atoi (s : ByteArray) (n : Int) (hl : s.size ≤ 18) (h : Lib.atoi s.data.toList = some n) (w : World) :
  Calls Tryz.prog 198 #[.string s] w fun e w' => e = .returned (.tuple #[.int .i64 n, .nilIface]) ∧ ∃ t, w' = Lib.bytesWorld w 5 t := Any.strconv_Atoi Tryz.aET s n hl h w
def Tryz.aEU : Go.Shelf.Ren := ⟨fun | 160 => 95 | 232 => 121 | 231 => 120 | 227 => 122 | 234 => 124 | 233 => 123 | 236 => 126 | 235 => 125 | 228 => 159 | 271 => 162 | 151 => 161 | 197 => 160 | 120 => 196 | 152 => 195 | 260 => 194 | 137 => 61 | 119 => 218 | 224 => 219 | 225 => 220 | 217 => 92 | 266 => 119 | n => n, fun | 9 => 9 | 4 => 4 | 3 => 3 | 5 => 5 | 117 => 173 | 116 => 172 | 0 => 0 | 124 => 176 | 21 => 21 | 105 => 226 | 46 => 136 | 119 => 285 | 139 => 288 | 138 => 287 | n => n, fun | 3 => 2 | 4 => 3 | n => n⟩
theorem Tryz.aEV : Go.Proofs.Lays.n160 Tryz.prog Tryz.aEU := {
 mixed := by kernel_rfl
 f119 := Tryz.func218.trans (congrArg some (by kernel_rfl))
 f120 := Tryz.func196.trans (congrArg some (by kernel_rfl))
 f137 := Tryz.func61.trans (congrArg some (by kernel_rfl))
 f151 := Tryz.func161.trans (congrArg some (by kernel_rfl))
 f152 := Tryz.func195.trans (congrArg some (by kernel_rfl))
 f160 := Tryz.func95.trans (congrArg some (by kernel_rfl))
 f197 := Tryz.func160.trans (congrArg some (by kernel_rfl))
 f217 := Tryz.func92.trans (congrArg some (by kernel_rfl))
 f224 := Tryz.func219.trans (congrArg some (by kernel_rfl))
 f225 := Tryz.func220.trans (congrArg some (by kernel_rfl))
 f227 := Tryz.func122.trans (congrArg some (by kernel_rfl))
 f228 := Tryz.func159.trans (congrArg some (by kernel_rfl))
 f231 := Tryz.func120.trans (congrArg some (by kernel_rfl))
 f232 := Tryz.func121.trans (congrArg some (by kernel_rfl))
 f233 := Tryz.func123.trans (congrArg some (by kernel_rfl))
 f234 := Tryz.func124.trans (congrArg some (by kernel_rfl))
 f235 := Tryz.func125.trans (congrArg some (by kernel_rfl))
 f236 := Tryz.func126.trans (congrArg some (by kernel_rfl))
 f260 := Tryz.func194.trans (congrArg some (by kernel_rfl))
 f266 := Tryz.func119.trans (congrArg some (by kernel_rfl))
 f271 := Tryz.func162.trans (congrArg some (by kernel_rfl))
 t0 := Tryz.underlying0
 a0 := Tryz.isAgg0
 z0 := Tryz.sizeOf0
 v0 := Tryz.zeroValue0
 t3 := Tryz.underlying3
 a3 := Tryz.isAgg3
 z3 := Tryz.sizeOf3
 v3 := Tryz.zeroValue3
 t4 := Tryz.underlying4
 a4 := Tryz.isAgg4
 z4 := Tryz.sizeOf4
 v4 := Tryz.zeroValue4
 t5 := Tryz.underlying5
 a5 := Tryz.isAgg5
 z5 := Tryz.sizeOf5
 v5 := Tryz.zeroValue5
 t9 := Tryz.underlying9
 a9 := Tryz.isAgg9
 z9 := Tryz.sizeOf9
 v9 := Tryz.zeroValue9
 t21 := Tryz.underlying21
 a21 := Tryz.isAgg21
 z21 := Tryz.sizeOf21
 v21 := Tryz.zeroValue21
 t46 := Tryz.underlying136
 a46 := Tryz.isAgg136
 z46 := Tryz.sizeOf136
 v46 := Tryz.zeroValue136
 t105 := Tryz.underlying226
 a105 := Tryz.isAgg226
 z105 := Tryz.sizeOf226
 v105 := Tryz.zeroValue226
 t116 := Tryz.underlying172
 a116 := Tryz.isAgg172
 z116 := Tryz.sizeOf172
 t117 := Tryz.underlying173
 a117 := Tryz.isAgg173
 z117 := Tryz.sizeOf173
 v117 := Tryz.zeroValue173
 t119 := Tryz.underlying285
 a119 := Tryz.isAgg285
 z119 := Tryz.sizeOf285
 t124 := Tryz.underlying176
 a124 := Tryz.isAgg176
 z124 := Tryz.sizeOf176
 v124 := Tryz.zeroValue176
 t138 := Tryz.underlying287
 a138 := Tryz.isAgg287
 z138 := Tryz.sizeOf287
 v138 := Tryz.zeroValue287
 t139 := Tryz.underlying288
 a139 := Tryz.isAgg288
 z139 := Tryz.sizeOf288
 v139 := Tryz.zeroValue288
 g3 := by kernel_rfl
 g4 := by kernel_rfl }
open Go.RowKit Go.Lib in
theorem Tryz.strings_Trim_laid (s yY : ByteArray) (w : World) (hs : s.size ≤ 9223372036854775807) (hcs : yY.size < 4294967281) (aEW : ∀ (j : Nat) b, yY.data.toList[j]? = some b → b.toNat < 128) :
  Calls Tryz.prog 95 #[.string s, .string yY] w fun e w' => e = .returned (.string ⟨(Lib.trimS s.data.toList yY.data.toList).toArray⟩) ∧ Below w.heap.size w w' := Any.strings_Trim_laid Tryz.aEV (by kernel_rfl) s yY w hs hcs aEW
end Go.Proofs
