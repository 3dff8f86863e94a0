/- Several texts in one: Where the library's functions on texts lie (printed by wip/tools/gennbl.sh at this seat). Numbers as texts: what is of no program. Numbers in parts as texts: what is of no program. A bundle: below the first world all is as it was, and some blocks lie whole. -/
import Derived.Shelf.Lays
import Derived.Shelf.LaysM
import Derived.Shelf.LaysC
import Derived.Test.YtgohbkkeppknoaaGreatDoorCmdParsesZz1
import Derived.Lib.ItoaLen
import Derived.Lib.ParseIntBTie
section
set_option linter.unusedVariables false
namespace Go.Proofs.YtgohbkkeppknoaaGreatDoor
open Go.Shelf
def fmtI_ren : Go.Shelf.Ren := ⟨fun | 173 => 194 | 246 => 270 | 283 => 325 | 284 => 326 | 285 => 327 | 286 => 328 | 129 => 352 | 317 => 351 | 318 => 353 | 319 => 354 | 320 => 355 | 337 => 365 | 338 => 366 | n => n, fun | 2 => 2 | 3 => 3 | 9 => 9 | 4 => 4 | 171 => 406 | 0 => 0 | 53 => 44 | 37 => 59 | 5 => 5 | 173 => 409 | 212 => 425 | 51 => 209 | 20 => 20 | 213 => 426 | 46 => 140 | 232 => 441 | 233 => 442 | n => n, fun | 17 => 3 | 18 => 6 | 19 => 7 | n => n⟩
theorem fmtI : Go.Proofs.LaysM.n173 Tryz.prog fmtI_ren := {
  mixed := by kernel_rfl
  f129 := Tryz.func352.trans (congrArg some (by kernel_rfl))
  f173 := Tryz.func194.trans (congrArg some (by kernel_rfl))
  f246 := Tryz.func270.trans (congrArg some (by kernel_rfl))
  f283 := Tryz.func325.trans (congrArg some (by kernel_rfl))
  f284 := Tryz.func326.trans (congrArg some (by kernel_rfl))
  f285 := Tryz.func327.trans (congrArg some (by kernel_rfl))
  f286 := Tryz.func328.trans (congrArg some (by kernel_rfl))
  f317 := Tryz.func351.trans (congrArg some (by kernel_rfl))
  f318 := Tryz.func353.trans (congrArg some (by kernel_rfl))
  f319 := Tryz.func354.trans (congrArg some (by kernel_rfl))
  f320 := Tryz.func355.trans (congrArg some (by kernel_rfl))
  f337 := Tryz.func365.trans (congrArg some (by kernel_rfl))
  f338 := Tryz.func366.trans (congrArg some (by kernel_rfl))
  t0 := Tryz.underlying0
  a0 := Tryz.isAgg0
  z0 := Tryz.sizeOf0
  v0 := Tryz.zeroValue0
  t2 := Tryz.underlying2
  a2 := Tryz.isAgg2
  z2 := Tryz.sizeOf2
  v2 := Tryz.zeroValue2
  t3 := Tryz.underlying3
  a3 := Tryz.isAgg3
  z3 := Tryz.sizeOf3
  v3 := Tryz.zeroValue3
  t4 := Tryz.underlying4
  a4 := Tryz.isAgg4
  z4 := Tryz.sizeOf4
  v4 := Tryz.zeroValue4
  t5 := Tryz.underlying5
  a5 := Tryz.isAgg5
  z5 := Tryz.sizeOf5
  v5 := Tryz.zeroValue5
  t9 := Tryz.underlying9
  a9 := Tryz.isAgg9
  z9 := Tryz.sizeOf9
  v9 := Tryz.zeroValue9
  t20 := Tryz.underlying20
  a20 := Tryz.isAgg20
  z20 := Tryz.sizeOf20
  v20 := Tryz.zeroValue20
  t37 := Tryz.underlying59
  a37 := Tryz.isAgg59
  z37 := Tryz.sizeOf59
  v37 := Tryz.zeroValue59
  t46 := Tryz.underlying140
  a46 := Tryz.isAgg140
  z46 := Tryz.sizeOf140
  v46 := Tryz.zeroValue140
  t51 := Tryz.underlying209
  a51 := Tryz.isAgg209
  z51 := Tryz.sizeOf209
  v51 := Tryz.zeroValue209
  t53 := Tryz.underlying44
  a53 := Tryz.isAgg44
  z53 := Tryz.sizeOf44
  v53 := Tryz.zeroValue44
  t171 := Tryz.underlying406
  a171 := Tryz.isAgg406
  z171 := Tryz.sizeOf406
  v171 := Tryz.zeroValue406
  t173 := Tryz.underlying409
  a173 := Tryz.isAgg409
  z173 := Tryz.sizeOf409
  v173 := Tryz.zeroValue409
  t212 := Tryz.underlying425
  a212 := Tryz.isAgg425
  z212 := Tryz.sizeOf425
  v212 := Tryz.zeroValue425
  t213 := Tryz.underlying426
  a213 := Tryz.isAgg426
  z213 := Tryz.sizeOf426
  t232 := Tryz.underlying441
  a232 := Tryz.isAgg441
  z232 := Tryz.sizeOf441
  v232 := Tryz.zeroValue441
  t233 := Tryz.underlying442
  a233 := Tryz.isAgg442
  z233 := Tryz.sizeOf442
  v233 := Tryz.zeroValue442
  g17 := by kernel_rfl
  g18 := by kernel_rfl
  g19 := by kernel_rfl
  i0 := by kernel_rfl
  i2 := by kernel_rfl
  i3 := by kernel_rfl
  i4 := by kernel_rfl
  i5 := by kernel_rfl
  i9 := by kernel_rfl
  i20 := by kernel_rfl
  i37 := by kernel_rfl
  i46 := by kernel_rfl
  i51 := by kernel_rfl
  i53 := by kernel_rfl
  i171 := by kernel_rfl
  i173 := by kernel_rfl
  i212 := by kernel_rfl
  i232 := by kernel_rfl
  i233 := by kernel_rfl
  m17 := by kernel_rfl
  m18 := by kernel_rfl
  m19 := by kernel_rfl }

def parI_ren : Go.Shelf.Ren := ⟨fun | 174 => 193 | 247 => 268 | 245 => 269 | 287 => 320 | 279 => 321 | 280 => 322 | 281 => 323 | 282 => 324 | 321 => 347 | 322 => 348 | 316 => 349 | 171 => 285 | 205 => 350 | 243 => 330 | 246 => 270 | 283 => 325 | 284 => 326 | 285 => 327 | 286 => 328 | 129 => 352 | 317 => 351 | 318 => 353 | 319 => 354 | 320 => 355 | 337 => 365 | 338 => 366 | n => n, fun | 9 => 9 | 3 => 3 | 2 => 2 | 75 => 180 | 85 => 250 | 4 => 4 | 167 => 400 | 5 => 5 | 53 => 44 | 175 => 401 | 46 => 140 | 168 => 403 | 37 => 59 | 0 => 0 | 210 => 422 | 21 => 21 | 127 => 214 | 145 => 439 | 143 => 437 | 171 => 406 | 173 => 409 | 212 => 425 | 51 => 209 | 20 => 20 | 213 => 426 | 232 => 441 | 233 => 442 | 80 => 184 | n => n, fun | 15 => 1 | 16 => 2 | 17 => 3 | 18 => 6 | 19 => 7 | n => n⟩
theorem parI : Go.Proofs.LaysC.n174 Tryz.prog parI_ren := {
  mixed := by kernel_rfl
  f129 := Tryz.func352.trans (congrArg some (by kernel_rfl))
  f171 := Tryz.func285.trans (congrArg some (by kernel_rfl))
  f174 := Tryz.func193.trans (congrArg some (by kernel_rfl))
  f205 := Tryz.func350.trans (congrArg some (by kernel_rfl))
  f243 := Tryz.func330.trans (congrArg some (by kernel_rfl))
  f245 := Tryz.func269.trans (congrArg some (by kernel_rfl))
  f246 := Tryz.func270.trans (congrArg some (by kernel_rfl))
  f247 := Tryz.func268.trans (congrArg some (by kernel_rfl))
  f279 := Tryz.func321.trans (congrArg some (by kernel_rfl))
  f280 := Tryz.func322.trans (congrArg some (by kernel_rfl))
  f281 := Tryz.func323.trans (congrArg some (by kernel_rfl))
  f282 := Tryz.func324.trans (congrArg some (by kernel_rfl))
  f283 := Tryz.func325.trans (congrArg some (by kernel_rfl))
  f284 := Tryz.func326.trans (congrArg some (by kernel_rfl))
  f285 := Tryz.func327.trans (congrArg some (by kernel_rfl))
  f286 := Tryz.func328.trans (congrArg some (by kernel_rfl))
  f287 := Tryz.func320.trans (congrArg some (by kernel_rfl))
  f316 := Tryz.func349.trans (congrArg some (by kernel_rfl))
  f317 := Tryz.func351.trans (congrArg some (by kernel_rfl))
  f318 := Tryz.func353.trans (congrArg some (by kernel_rfl))
  f319 := Tryz.func354.trans (congrArg some (by kernel_rfl))
  f320 := Tryz.func355.trans (congrArg some (by kernel_rfl))
  f321 := Tryz.func347.trans (congrArg some (by kernel_rfl))
  f322 := Tryz.func348.trans (congrArg some (by kernel_rfl))
  f337 := Tryz.func365.trans (congrArg some (by kernel_rfl))
  f338 := Tryz.func366.trans (congrArg some (by kernel_rfl))
  t0 := Tryz.underlying0
  a0 := Tryz.isAgg0
  z0 := Tryz.sizeOf0
  v0 := Tryz.zeroValue0
  t2 := Tryz.underlying2
  a2 := Tryz.isAgg2
  z2 := Tryz.sizeOf2
  v2 := Tryz.zeroValue2
  t3 := Tryz.underlying3
  a3 := Tryz.isAgg3
  z3 := Tryz.sizeOf3
  v3 := Tryz.zeroValue3
  t4 := Tryz.underlying4
  a4 := Tryz.isAgg4
  z4 := Tryz.sizeOf4
  v4 := Tryz.zeroValue4
  t5 := Tryz.underlying5
  a5 := Tryz.isAgg5
  z5 := Tryz.sizeOf5
  v5 := Tryz.zeroValue5
  t9 := Tryz.underlying9
  a9 := Tryz.isAgg9
  z9 := Tryz.sizeOf9
  v9 := Tryz.zeroValue9
  t20 := Tryz.underlying20
  a20 := Tryz.isAgg20
  z20 := Tryz.sizeOf20
  v20 := Tryz.zeroValue20
  t21 := Tryz.underlying21
  a21 := Tryz.isAgg21
  z21 := Tryz.sizeOf21
  v21 := Tryz.zeroValue21
  t37 := Tryz.underlying59
  a37 := Tryz.isAgg59
  z37 := Tryz.sizeOf59
  v37 := Tryz.zeroValue59
  t46 := Tryz.underlying140
  a46 := Tryz.isAgg140
  z46 := Tryz.sizeOf140
  v46 := Tryz.zeroValue140
  t51 := Tryz.underlying209
  a51 := Tryz.isAgg209
  z51 := Tryz.sizeOf209
  v51 := Tryz.zeroValue209
  t53 := Tryz.underlying44
  a53 := Tryz.isAgg44
  z53 := Tryz.sizeOf44
  v53 := Tryz.zeroValue44
  t75 := Tryz.underlying180
  a75 := Tryz.isAgg180
  z75 := Tryz.sizeOf180
  v75 := Tryz.zeroValue180
  t85 := Tryz.underlying250
  a85 := Tryz.isAgg250
  z85 := Tryz.sizeOf250
  v85 := Tryz.zeroValue250
  t127 := Tryz.underlying214
  a127 := Tryz.isAgg214
  z127 := Tryz.sizeOf214
  v127 := Tryz.zeroValue214
  t143 := Tryz.underlying437
  a143 := Tryz.isAgg437
  z143 := Tryz.sizeOf437
  v143 := Tryz.zeroValue437
  t145 := Tryz.underlying439
  a145 := Tryz.isAgg439
  z145 := Tryz.sizeOf439
  v145 := Tryz.zeroValue439
  t167 := Tryz.underlying400
  a167 := Tryz.isAgg400
  z167 := Tryz.sizeOf400
  v167 := Tryz.zeroValue400
  t168 := Tryz.underlying403
  a168 := Tryz.isAgg403
  z168 := Tryz.sizeOf403
  v168 := Tryz.zeroValue403
  t171 := Tryz.underlying406
  a171 := Tryz.isAgg406
  z171 := Tryz.sizeOf406
  v171 := Tryz.zeroValue406
  t173 := Tryz.underlying409
  a173 := Tryz.isAgg409
  z173 := Tryz.sizeOf409
  v173 := Tryz.zeroValue409
  t175 := Tryz.underlying401
  a175 := Tryz.isAgg401
  z175 := Tryz.sizeOf401
  v175 := Tryz.zeroValue401
  t210 := Tryz.underlying422
  a210 := Tryz.isAgg422
  z210 := Tryz.sizeOf422
  v210 := Tryz.zeroValue422
  t212 := Tryz.underlying425
  a212 := Tryz.isAgg425
  z212 := Tryz.sizeOf425
  v212 := Tryz.zeroValue425
  t213 := Tryz.underlying426
  a213 := Tryz.isAgg426
  z213 := Tryz.sizeOf426
  t232 := Tryz.underlying441
  a232 := Tryz.isAgg441
  z232 := Tryz.sizeOf441
  v232 := Tryz.zeroValue441
  t233 := Tryz.underlying442
  a233 := Tryz.isAgg442
  z233 := Tryz.sizeOf442
  v233 := Tryz.zeroValue442
  g15 := by kernel_rfl
  g16 := by kernel_rfl
  g17 := by kernel_rfl
  g18 := by kernel_rfl
  g19 := by kernel_rfl
  t80 := Tryz.underlying184
  a80 := Tryz.isAgg184
  z80 := Tryz.sizeOf184
  v80 := Tryz.zeroValue184
  i0 := by kernel_rfl
  i2 := by kernel_rfl
  i3 := by kernel_rfl
  i4 := by kernel_rfl
  i5 := by kernel_rfl
  i9 := by kernel_rfl
  i20 := by kernel_rfl
  i21 := by kernel_rfl
  i37 := by kernel_rfl
  i46 := by kernel_rfl
  i51 := by kernel_rfl
  i53 := by kernel_rfl
  i75 := by kernel_rfl
  i80 := by kernel_rfl
  i85 := by kernel_rfl
  i127 := by kernel_rfl
  i143 := by kernel_rfl
  i145 := by kernel_rfl
  i167 := by kernel_rfl
  i168 := by kernel_rfl
  i171 := by kernel_rfl
  i173 := by kernel_rfl
  i175 := by kernel_rfl
  i210 := by kernel_rfl
  i212 := by kernel_rfl
  i232 := by kernel_rfl
  i233 := by kernel_rfl
  m15 := by kernel_rfl
  m16 := by kernel_rfl
  m17 := by kernel_rfl
  m18 := by kernel_rfl
  m19 := by kernel_rfl
  c0 := by kernel_rfl
  c2 := by kernel_rfl
  c3 := by kernel_rfl
  c4 := by kernel_rfl
  c5 := by kernel_rfl
  c9 := by kernel_rfl
  c20 := by kernel_rfl
  c21 := by kernel_rfl
  c37 := by kernel_rfl
  c46 := by kernel_rfl
  c51 := by kernel_rfl
  c53 := by kernel_rfl
  c75 := by kernel_rfl
  c80 := by kernel_rfl
  c85 := by kernel_rfl
  c127 := by kernel_rfl
  c143 := by kernel_rfl
  c145 := by kernel_rfl
  c167 := by kernel_rfl
  c168 := by kernel_rfl
  c171 := by kernel_rfl
  c173 := by kernel_rfl
  c175 := by kernel_rfl
  c210 := by kernel_rfl
  c212 := by kernel_rfl
  c213 := by kernel_rfl
  c232 := by kernel_rfl
  c233 := by kernel_rfl }

def idxI_ren : Go.Shelf.Ren := ⟨fun | 219 => 312 | 217 => 342 | 225 => 343 | 224 => 344 | 267 => 345 | 266 => 362 | 314 => 363 | n => n, fun | 9 => 9 | 3 => 3 | 4 => 4 | 5 => 5 | 46 => 140 | 146 => 210 | 51 => 209 | n => n, fun | 1 => 0 | n => n⟩
theorem idxI : Go.Proofs.Lays.n219 Tryz.prog idxI_ren := {
  mixed := by kernel_rfl
  f217 := Tryz.func342.trans (congrArg some (by kernel_rfl))
  f219 := Tryz.func312.trans (congrArg some (by kernel_rfl))
  f224 := Tryz.func344.trans (congrArg some (by kernel_rfl))
  f225 := Tryz.func343.trans (congrArg some (by kernel_rfl))
  f266 := Tryz.func362.trans (congrArg some (by kernel_rfl))
  f267 := Tryz.func345.trans (congrArg some (by kernel_rfl))
  f314 := Tryz.func363.trans (congrArg some (by kernel_rfl))
  t3 := Tryz.underlying3
  a3 := Tryz.isAgg3
  z3 := Tryz.sizeOf3
  v3 := Tryz.zeroValue3
  t4 := Tryz.underlying4
  a4 := Tryz.isAgg4
  z4 := Tryz.sizeOf4
  v4 := Tryz.zeroValue4
  t5 := Tryz.underlying5
  a5 := Tryz.isAgg5
  z5 := Tryz.sizeOf5
  v5 := Tryz.zeroValue5
  t9 := Tryz.underlying9
  a9 := Tryz.isAgg9
  z9 := Tryz.sizeOf9
  v9 := Tryz.zeroValue9
  t46 := Tryz.underlying140
  a46 := Tryz.isAgg140
  z46 := Tryz.sizeOf140
  v46 := Tryz.zeroValue140
  t51 := Tryz.underlying209
  a51 := Tryz.isAgg209
  z51 := Tryz.sizeOf209
  v51 := Tryz.zeroValue209
  t146 := Tryz.underlying210
  a146 := Tryz.isAgg210
  z146 := Tryz.sizeOf210
  v146 := Tryz.zeroValue210
  g1 := by kernel_rfl }

def repI_ren : Go.Shelf.Ren := ⟨fun | 105 => 70 | 212 => 122 | 99 => 123 | 165 => 124 | 166 => 125 | 170 => 126 | 169 => 127 | 263 => 166 | 264 => 167 | 206 => 168 | 240 => 169 | 241 => 170 | 276 => 227 | 277 => 228 | n => n, fun | 9 => 9 | 3 => 3 | 4 => 4 | 20 => 20 | 0 => 0 | 46 => 140 | 109 => 172 | 5 => 5 | 72 => 177 | 76 => 181 | 51 => 209 | 146 => 210 | 53 => 44 | 148 => 212 | 70 => 175 | 37 => 59 | 75 => 180 | 127 => 214 | 164 => 289 | 80 => 184 | n => n, fun | n => n⟩
theorem repI : Go.Proofs.Lays.n105 Tryz.prog repI_ren := {
  mixed := by kernel_rfl
  f99 := Tryz.func123.trans (congrArg some (by kernel_rfl))
  f105 := Tryz.func70.trans (congrArg some (by kernel_rfl))
  f165 := Tryz.func124.trans (congrArg some (by kernel_rfl))
  f166 := Tryz.func125.trans (congrArg some (by kernel_rfl))
  f169 := Tryz.func127.trans (congrArg some (by kernel_rfl))
  f170 := Tryz.func126.trans (congrArg some (by kernel_rfl))
  f206 := Tryz.func168.trans (congrArg some (by kernel_rfl))
  f212 := Tryz.func122.trans (congrArg some (by kernel_rfl))
  f240 := Tryz.func169.trans (congrArg some (by kernel_rfl))
  f241 := Tryz.func170.trans (congrArg some (by kernel_rfl))
  f263 := Tryz.func166.trans (congrArg some (by kernel_rfl))
  f264 := Tryz.func167.trans (congrArg some (by kernel_rfl))
  f276 := Tryz.func227.trans (congrArg some (by kernel_rfl))
  f277 := Tryz.func228.trans (congrArg some (by kernel_rfl))
  t0 := Tryz.underlying0
  a0 := Tryz.isAgg0
  z0 := Tryz.sizeOf0
  v0 := Tryz.zeroValue0
  t3 := Tryz.underlying3
  a3 := Tryz.isAgg3
  z3 := Tryz.sizeOf3
  v3 := Tryz.zeroValue3
  t4 := Tryz.underlying4
  a4 := Tryz.isAgg4
  z4 := Tryz.sizeOf4
  v4 := Tryz.zeroValue4
  t5 := Tryz.underlying5
  a5 := Tryz.isAgg5
  z5 := Tryz.sizeOf5
  v5 := Tryz.zeroValue5
  t9 := Tryz.underlying9
  a9 := Tryz.isAgg9
  z9 := Tryz.sizeOf9
  v9 := Tryz.zeroValue9
  t20 := Tryz.underlying20
  a20 := Tryz.isAgg20
  z20 := Tryz.sizeOf20
  v20 := Tryz.zeroValue20
  t37 := Tryz.underlying59
  a37 := Tryz.isAgg59
  z37 := Tryz.sizeOf59
  v37 := Tryz.zeroValue59
  t46 := Tryz.underlying140
  a46 := Tryz.isAgg140
  z46 := Tryz.sizeOf140
  v46 := Tryz.zeroValue140
  t51 := Tryz.underlying209
  a51 := Tryz.isAgg209
  z51 := Tryz.sizeOf209
  v51 := Tryz.zeroValue209
  t53 := Tryz.underlying44
  a53 := Tryz.isAgg44
  z53 := Tryz.sizeOf44
  v53 := Tryz.zeroValue44
  t70 := Tryz.underlying175
  a70 := Tryz.isAgg175
  z70 := Tryz.sizeOf175
  v70 := Tryz.zeroValue175
  t72 := Tryz.underlying177
  a72 := Tryz.isAgg177
  z72 := Tryz.sizeOf177
  v72 := Tryz.zeroValue177
  t75 := Tryz.underlying180
  a75 := Tryz.isAgg180
  z75 := Tryz.sizeOf180
  v75 := Tryz.zeroValue180
  t76 := Tryz.underlying181
  a76 := Tryz.isAgg181
  z76 := Tryz.sizeOf181
  v76 := Tryz.zeroValue181
  t109 := Tryz.underlying172
  a109 := Tryz.isAgg172
  z109 := Tryz.sizeOf172
  v109 := Tryz.zeroValue172
  t127 := Tryz.underlying214
  a127 := Tryz.isAgg214
  z127 := Tryz.sizeOf214
  v127 := Tryz.zeroValue214
  t146 := Tryz.underlying210
  a146 := Tryz.isAgg210
  z146 := Tryz.sizeOf210
  v146 := Tryz.zeroValue210
  t148 := Tryz.underlying212
  a148 := Tryz.isAgg212
  z148 := Tryz.sizeOf212
  v148 := Tryz.zeroValue212
  t164 := Tryz.underlying289
  a164 := Tryz.isAgg289
  z164 := Tryz.sizeOf289
  v164 := Tryz.zeroValue289 }

end Go.Proofs.YtgohbkkeppknoaaGreatDoor
end
section
set_option linter.unusedVariables false
namespace Go.Proofs.YtgohbkkeppknoaaGreatDoor
open Go.Lib
/-- A digit. -/
def isD (b : UInt8) : Bool := decide (48 ≤ b.toNat ∧ b.toNat ≤ 57)
theorem isD_iff {b : UInt8} : isD b = true ↔ 48 ≤ b.toNat ∧ b.toNat ≤ 57 := by unfold isD; simp
/-- What a digit is. (A name of its own: else Lean unfolds the difference for minutes.) -/
@[irreducible] def dv (b : UInt8) : Nat := b.toNat - 48
theorem dv_eq (b : UInt8) : dv b = b.toNat - 48 := by unfold dv; rfl
/-- The number that digits are. -/
def numV : Nat → List UInt8 → Nat
  | acc, [] => acc
  | acc, b :: r => numV (acc * 10 + dv b) r
theorem numV_nil (acc : Nat) : numV acc [] = acc := rfl
theorem numV_cons (acc : Nat) (b : UInt8) (r : List UInt8) : numV acc (b :: r) = numV (acc * 10 + dv b) r := rfl
theorem numV_app (l m : List UInt8) : ∀ acc, numV acc (l ++ m) = numV (numV acc l) m := by
  induction l with
  | nil => intro acc; rfl
  | cons b r ih => intro acc; exact ih _
theorem numV_one (acc : Nat) (b : UInt8) : numV acc [b] = acc * 10 + dv b := rfl
theorem numV_lem (a b p n : Nat) : (a * 10 + b) * p + n = a * (p * 10) + ((0 * 10 + b) * p + n) := by
  rw [Nat.add_mul, Nat.zero_mul, Nat.zero_add, Nat.mul_comm p 10, ← Nat.mul_assoc, Nat.add_assoc]
theorem numV_add (l : List UInt8) : ∀ (acc : Nat), numV acc l = acc * 10 ^ l.length + numV 0 l := by
  induction l with
  | nil => intro acc; rw [numV_nil, numV_nil, List.length_nil, Nat.pow_zero, Nat.mul_one, Nat.add_zero]
  | cons b r ih =>
    intro acc
    rw [numV_cons, numV_cons, ih (acc * 10 + dv b), ih (0 * 10 + dv b), List.length_cons, Nat.pow_succ]
    exact numV_lem _ _ _ _
theorem numV_ge (l : List UInt8) (acc : Nat) : acc ≤ numV acc l := by
  rw [numV_add]
  have : acc * 1 ≤ acc * 10 ^ l.length := Nat.mul_le_mul_left _ (Nat.one_le_pow _ _ (by decide))
  omega
theorem ofNat_dig {d : Nat} (h : d < 10) : (UInt8.ofNat (48 + d)).toNat = 48 + d := by
  simp only [UInt8.toNat_ofNat']
  omega
theorem isD_of {d : Nat} (h : d < 10) : isD (UInt8.ofNat (48 + d)) = true := by
  rw [isD_iff, ofNat_dig h]
  omega
theorem dec_all (u : Nat) : ∀ b ∈ decDigits u, isD b = true := by
  induction u using Nat.strongRecOn with
  | _ u ih =>
    intro b hb
    by_cases h : u < 10
    · rw [decDigits, dif_pos h] at hb
      rw [List.mem_singleton.1 hb]
      exact isD_of h
    · rw [decDigits, dif_neg h, List.mem_append] at hb
      rcases hb with hb | hb
      · exact ih _ (by omega) b hb
      · rw [List.mem_singleton.1 hb]
        exact isD_of (by omega)
theorem numV_dec (u : Nat) : numV 0 (decDigits u) = u := by
  induction u using Nat.strongRecOn with
  | _ u ih =>
    by_cases h : u < 10
    · rw [decDigits, dif_pos h]
      rw [numV_one, dv_eq, ofNat_dig h]
      omega
    · rw [decDigits, dif_neg h, numV_app, ih _ (by omega)]
      rw [numV_one, dv_eq, ofNat_dig (by omega)]
      omega
theorem dec_ne (u : Nat) : decDigits u ≠ [] := fun e => by
  have h := decDigits_length u
  have h2 := nDigits_pos u
  rw [e] at h
  simp at h
  omega
theorem parseU_ok : ∀ (l : List UInt8) (acc : Nat), (∀ b ∈ l, isD b = true) → numV acc l < 18446744073709551616 → parseUint10 acc l = .ok (numV acc l)
  | [], acc, _, _ => rfl
  | c :: r, acc, h, hn => by
    have hc := isD_iff.1 (h c (by simp))
    have h1 := numV_cons acc c r
    have h2 := numV_ge r (acc * 10 + dv c)
    rw [h1] at hn ⊢
    rw [dv_eq] at *
    simp only [parseUint10]
    rw [if_pos hc, if_neg (by omega), if_neg (by omega)]
    exact parseU_ok r _ (fun b hb => h b (by simp [hb])) hn
def in64 (x : Int) : Prop := -9223372036854775808 ≤ x ∧ x ≤ 9223372036854775807
instance (x : Int) : Decidable (in64 x) := by unfold in64; infer_instance
theorem dec_head {u : Nat} {c : UInt8} {r : List UInt8} (h : decDigits u = c :: r) : c.toNat ≠ 43 ∧ c.toNat ≠ 45 ∧ c.toNat ≠ 46 := by
  have := isD_iff.1 (dec_all u c (by rw [h]; simp))
  omega
theorem parse_itoa {x : Int} (h : in64 x) : parseIntB 64 (itoa x) = .ok x := by
  obtain ⟨h1, h2⟩ := h
  unfold itoa
  split
  · rw [parseIntB_minus, parseUintB_64]
    unfold parseMag
    rw [if_neg (dec_ne _), parseU_ok _ _ (dec_all _) (by rw [numV_dec]; omega), numV_dec]
    unfold signedC
    simp only
    rw [if_neg (by omega)]
    congr 1
    omega
  · obtain ⟨c, r, e⟩ : ∃ c r, decDigits x.toNat = c :: r := by
      cases hd : decDigits x.toNat with
      | nil => exact absurd hd (dec_ne _)
      | cons c r => exact ⟨c, r, rfl⟩
    have hh := dec_head e
    rw [e, parseIntB_plain _ _ _ hh.1 hh.2.1, ← e, parseUintB_64]
    unfold parseMag
    rw [if_neg (dec_ne _), parseU_ok _ _ (dec_all _) (by rw [numV_dec]; omega), numV_dec]
    unfold signlessC
    simp only
    rw [if_neg (by omega)]
    congr 1
    omega
/-- words.Number: the whole number that a text is. -/
def numO (l : List UInt8) : Option Int := match parseIntB 64 l with
  | .ok x => if itoa x = l then some x else none
  | _ => none
theorem numO_iff {l : List UInt8} {x : Int} : numO l = some x ↔ in64 x ∧ itoa x = l := by
  unfold numO
  constructor
  · intro h
    split at h
    · rename_i y hy
      split at h
      · rename_i e
        injection h with h
        subst h
        have := parseIntB_bounds hy
        exact ⟨⟨by omega, by omega⟩, e⟩
      · cases h
    · cases h
  · rintro ⟨h1, rfl⟩
    rw [parse_itoa h1]
    simp
/-- A text without its sign. -/
def unsg (l : List UInt8) : List UInt8 := if l.head? = some 45 then l.tail else l
def neg? (l : List UInt8) : Bool := decide (l.head? = some 45)
/-- The reference's whole number. -/
def sgL (l : List UInt8) (z : Int) : Int := if neg? l then -z else z
def refN (l : List UInt8) : Option Int :=
  if unsg l = [] ∨ 25 < (unsg l).length ∨ ¬ ((unsg l).all isD = true) then none
  else if in64 (sgL l (numV 0 (unsg l))) ∧ itoa (sgL l (numV 0 (unsg l))) = l then some (sgL l (numV 0 (unsg l))) else none
theorem opt_ext {a b : Option Int} (h : ∀ x, a = some x ↔ b = some x) : a = b := by
  cases a with
  | none =>
    cases b with
    | none => rfl
    | some y => exact absurd ((h y).2 rfl) (by simp)
  | some x => exact ((h x).1 rfl).symm
theorem itoa_parts (x : Int) : neg? (itoa x) = decide (x < 0) ∧ unsg (itoa x) = decDigits x.natAbs := by
  unfold itoa neg? unsg
  split
  · rename_i h
    simp [h]
  · rename_i h
    obtain ⟨c, r, e⟩ : ∃ c r, decDigits x.toNat = c :: r := by
      cases hd : decDigits x.toNat with
      | nil => exact absurd hd (dec_ne _)
      | cons c r => exact ⟨c, r, rfl⟩
    have hh := dec_head e
    have hc : c ≠ 45 := fun e => by subst e; exact hh.2.1 rfl
    rw [e]
    simp only [List.head?_cons, Option.some.injEq, hc, if_false, decide_false]
    refine ⟨by simp; omega, ?_⟩
    rw [← e]
    congr 1
    omega
theorem refN_iff {l : List UInt8} {x : Int} : refN l = some x ↔ in64 x ∧ itoa x = l := by
  unfold refN
  constructor
  · intro h
    split at h
    · cases h
    · split at h
      · rename_i e
        injection h with h
        rw [h] at e
        exact e
      · cases h
  · rintro ⟨h1, rfl⟩
    obtain ⟨e1, e2⟩ := itoa_parts x
    rw [e2, numV_dec]
    have hx : sgL (itoa x) (x.natAbs : Int) = x := by
      unfold sgL
      rw [e1]
      by_cases h : x < 0
      · rw [if_pos (by simpa using h)]; omega
      · rw [if_neg (by simpa using h)]; omega
    rw [hx, if_pos (show in64 x ∧ itoa x = itoa x from ⟨h1, rfl⟩)]
    refine if_neg ?_
    rintro (h | h | h)
    · exact dec_ne _ h
    · rw [decDigits_length] at h
      have := nDigits_le20 x.natAbs (by unfold in64 at h1; omega)
      omega
    · exact h (List.all_eq_true.2 (dec_all _))
theorem refN_eq (l : List UInt8) : refN l = numO l := opt_ext fun x => refN_iff.trans numO_iff.symm
end Go.Proofs.YtgohbkkeppknoaaGreatDoor
end
section
set_option linter.unusedVariables false
namespace Go.Proofs.YtgohbkkeppknoaaGreatDoor
open Go.Lib
/-- The digits behind the point, n at most. -/
def fracF : Nat → Nat → List UInt8
  | 0, _ => []
  | n + 1, p => if p = 0 then [] else UInt8.ofNat (48 + p * 10 / 65536) :: fracF n (p * 10 % 65536)
theorem fracF_zero (n : Nat) : fracF n 0 = [] := by cases n <;> simp [fracF]
theorem fracF_len : ∀ (n p : Nat), (fracF n p).length ≤ n
  | 0, p => by simp [fracF]
  | n + 1, p => by
    unfold fracF
    split
    · simp
    · have := fracF_len n (p * 10 % 65536)
      simp only [List.length_cons]
      omega
theorem fracF_all : ∀ (n p : Nat), p < 65536 → ∀ b ∈ fracF n p, isD b = true
  | 0, p, _ => by simp [fracF]
  | n + 1, p, hp => by
    unfold fracF
    split
    · simp
    · intro b hb
      rw [List.mem_cons] at hb
      rcases hb with rfl | hb
      · exact isD_of (by omega)
      · exact fracF_all n _ (Nat.mod_lt _ (by decide)) b hb
theorem frac_step {p P : Nat} (h : p * (P * 10) % 65536 = 0) : p * 10 % 65536 * P % 65536 = 0 := by
  rw [Nat.mod_mul_mod, Nat.mul_assoc, Nat.mul_comm 10 P]
  exact h
theorem frac_alg (p P v : Nat) (h : v * 65536 = p * 10 % 65536 * P) : (p * 10 / 65536 * P + v) * 65536 = p * (P * 10) := by
  have e := Nat.div_add_mod (p * 10) 65536
  have e2 : p * (P * 10) = (p * 10) * P := by rw [Nat.mul_comm P 10, Nat.mul_assoc]
  rw [e2]
  generalize p * 10 = X at *
  generalize X / 65536 = d at *
  generalize X % 65536 = r at *
  subst e
  rw [Nat.add_mul, Nat.add_mul, h, Nat.mul_right_comm, Nat.mul_comm d 65536]
theorem fracF_val : ∀ (n p : Nat), p < 65536 → p * 10 ^ n % 65536 = 0 → numV 0 (fracF n p) * 65536 = p * 10 ^ (fracF n p).length
  | 0, p, hp, h => by
    have : p = 0 := by simpa [Nat.mod_eq_of_lt hp] using h
    subst this
    simp [fracF, numV_nil]
  | n + 1, p, hp, h => by
    unfold fracF
    split
    · rename_i h0
      subst h0
      simp [numV_nil]
    · have hd : p * 10 / 65536 < 10 := by omega
      rw [Nat.pow_succ] at h
      have ih := fracF_val n (p * 10 % 65536) (Nat.mod_lt _ (by decide)) (frac_step h)
      rw [numV_cons, dv_eq, ofNat_dig hd, numV_add, List.length_cons, Nat.pow_succ]
      generalize 10 ^ (fracF n (p * 10 % 65536)).length = P at *
      generalize numV 0 (fracF n (p * 10 % 65536)) = v at *
      have e : 0 * 10 + (48 + p * 10 / 65536 - 48) = p * 10 / 65536 := by omega
      rw [e]
      exact frac_alg p P v ih
theorem ten16 (p : Nat) : p * 10 ^ 16 % 65536 = 0 := by
  have e : (10 : Nat) ^ 16 = 152587890625 * 65536 := by decide
  rw [e, ← Nat.mul_assoc]
  exact Nat.mul_mod_left _ _
/-- What stands behind a number's whole part. -/
def ptL (p : Nat) : List UInt8 := if p = 0 then [] else 46 :: fracF 16 p
/-- A number in parts as a text. -/
def showL (x : Int) : List UInt8 := (if x < 0 then [45] else []) ++ (decDigits (x.natAbs / 65536) ++ ptL (x.natAbs % 65536))
/-- A text parted at its first point. -/
def cutD : List UInt8 → List UInt8 × Option (List UInt8)
  | [] => ([], none)
  | b :: r => if b = 46 then ([], some r) else (b :: (cutD r).1, (cutD r).2)
theorem cutD_no : ∀ (l m : List UInt8), (∀ b ∈ l, isD b = true) → cutD (l ++ m) = (l ++ (cutD m).1, (cutD m).2)
  | [], m, _ => rfl
  | b :: r, m, h => by
    have hb : b ≠ 46 := fun e => by
      have := isD_iff.1 (h b (by simp))
      subst e
      exact absurd this.1 (by decide)
    have ih := cutD_no r m (fun c hc => h c (by simp [hc]))
    simp only [List.cons_append, cutD, if_neg hb, ih]
theorem cutD_pt (u p : Nat) : cutD (decDigits u ++ ptL p) = (decDigits u, if p = 0 then none else some (fracF 16 p)) := by
  rw [cutD_no _ _ (dec_all u)]
  unfold ptL
  split
  · simp [cutD]
  · simp [cutD]
theorem show_parts (x : Int) : neg? (showL x) = decide (x < 0) ∧ unsg (showL x) = decDigits (x.natAbs / 65536) ++ ptL (x.natAbs % 65536) := by
  unfold showL neg? unsg
  split
  · rename_i h
    simp [h]
  · rename_i h
    obtain ⟨c, r, e⟩ : ∃ c r, decDigits (x.natAbs / 65536) = c :: r := by
      cases hd : decDigits (x.natAbs / 65536) with
      | nil => exact absurd hd (dec_ne _)
      | cons c r => exact ⟨c, r, rfl⟩
    have hh := dec_head e
    have hc : c ≠ 45 := fun e => by subst e; exact hh.2.1 rfl
    rw [e]
    simp [hc, h]
/-- What is behind the point, in parts. -/
def partZ (t : List UInt8) : Int := ((numV 0 t * 65536 / 10 ^ t.length : Nat) : Int)
/-- The number of a head and what is behind its point. -/
def headZ (h : List UInt8) (t : Option (List UInt8)) : Int := (numV 0 h : Int) * 65536 + (match t with | none => 0 | some t => partZ t)
theorem headZ_show (x : Int) : headZ (decDigits (x.natAbs / 65536)) (if x.natAbs % 65536 = 0 then none else some (fracF 16 (x.natAbs % 65536))) = x.natAbs := by
  unfold headZ
  rw [numV_dec]
  split
  · rename_i h
    split at h
    · omega
    · cases h
  · rename_i t h
    split at h
    · cases h
    · rename_i h0
      injection h with h
      subst h
      unfold partZ
      rw [fracF_val _ _ (Nat.mod_lt _ (by decide)) (ten16 _), Nat.mul_div_cancel _ (Nat.pow_pos (by decide))]
      omega
/-- fix.Read: which head and tail may be. -/
def okP (h : List UInt8) (t : Option (List UInt8)) : Prop := h ≠ [] ∧ h.length ≤ 18 ∧ h.all isD = true ∧ numV 0 h ≤ 140737488355328 ∧ ∀ t', t = some t' → t' ≠ [] ∧ t'.length ≤ 16 ∧ t'.all isD = true
/-- The reference's Read: which head and tail may be. -/
def okR (h : List UInt8) (t : Option (List UInt8)) : Prop := h ≠ [] ∧ h.all isD = true ∧ ∀ t', t = some t' → t' ≠ [] ∧ t'.all isD = true
/-- x is the number in parts whose text is l. -/
def ShowIs (l : List UInt8) (x : Int) : Prop := in64 x ∧ showL x = l
theorem show_okP {x : Int} (h : in64 x) : okP (decDigits (x.natAbs / 65536)) (if x.natAbs % 65536 = 0 then none else some (fracF 16 (x.natAbs % 65536))) := by
  unfold in64 at h
  have hb : x.natAbs / 65536 ≤ 140737488355328 := by omega
  refine ⟨dec_ne _, ?_, List.all_eq_true.2 (dec_all _), by rw [numV_dec]; exact hb, ?_⟩
  · rw [decDigits_length]
    rcases Nat.lt_or_ge (x.natAbs / 65536) 10 with h1 | h1
    · rw [nDigits_small h1]; decide
    · have hn : ∀ (k u : Nat), u < 10 ^ (k + 1) → nDigits u ≤ k + 1 := by
        intro k
        induction k with
        | zero => intro u hu; rw [nDigits_small (by simpa using hu)]; decide
        | succ k ih =>
          intro u hu
          by_cases h : u < 10
          · rw [nDigits_small h]; omega
          · rw [nDigits_big h]
            have := ih (u / 10) (by rw [Nat.pow_succ] at hu; omega)
            omega
      exact hn 17 _ (Nat.lt_of_le_of_lt hb (by decide))
  · intro t' ht
    split at ht
    · cases ht
    · rename_i h0
      injection ht with ht
      subst ht
      refine ⟨fun e => ?_, fracF_len _ _, List.all_eq_true.2 (fracF_all _ _ (Nat.mod_lt _ (by decide)))⟩
      have : fracF 16 (x.natAbs % 65536) ≠ [] := by
        unfold fracF
        rw [if_neg h0]
        simp
      exact this e
theorem sgn_show (x : Int) : sgL (showL x) (x.natAbs : Int) = x := by
  unfold sgL
  rw [(show_parts x).1]
  by_cases h : x < 0
  · rw [if_pos (by simpa using h)]; omega
  · rw [if_neg (by simpa using h)]; omega
theorem show_len {x : Int} (h : in64 x) : (unsg (showL x)).length ≤ 60 := by
  rw [(show_parts x).2, List.length_append]
  obtain ⟨_, h2, _⟩ := show_okP h
  unfold ptL
  split
  · simp; omega
  · have := fracF_len 16 (x.natAbs % 65536)
    simp
    omega
/-- Whoever parses like this, and looks whether it is shown so, finds the number that is shown so. -/
theorem read_iff {l : List UInt8} {z : Int} (hz : sgL l (headZ (cutD (unsg l)).1 (cutD (unsg l)).2) = z) : ShowIs l z → okP (cutD (unsg l)).1 (cutD (unsg l)).2 := by
  rintro ⟨h1, rfl⟩
  rw [(show_parts z).2, cutD_pt]
  exact show_okP h1
theorem okP_R {h : List UInt8} {t : Option (List UInt8)} (hp : okP h t) : okR h t := ⟨hp.1, hp.2.2.1, fun t' e => ⟨(hp.2.2.2.2 t' e).1, (hp.2.2.2.2 t' e).2.2⟩⟩
theorem show_read {x : Int} (h : in64 x) : okP (cutD (unsg (showL x))).1 (cutD (unsg (showL x))).2 ∧ sgL (showL x) (headZ (cutD (unsg (showL x))).1 (cutD (unsg (showL x))).2) = x := by
  rw [(show_parts x).2, cutD_pt]
  refine ⟨show_okP h, ?_⟩
  rw [headZ_show, sgn_show]
/-- The number of which a text is shown, or none. -/
def readO (l : List UInt8) : Option Int :=
  if in64 (sgL l (headZ (cutD (unsg l)).1 (cutD (unsg l)).2)) ∧ showL (sgL l (headZ (cutD (unsg l)).1 (cutD (unsg l)).2)) = l then some (sgL l (headZ (cutD (unsg l)).1 (cutD (unsg l)).2)) else none
theorem readO_iff {l : List UInt8} {x : Int} : readO l = some x ↔ ShowIs l x := by
  unfold readO
  constructor
  · intro h
    split at h
    · rename_i e
      injection h with h
      rw [h] at e
      exact e
    · cases h
  · rintro ⟨h1, rfl⟩
    rw [(show_read h1).2, if_pos (show in64 x ∧ showL x = showL x from ⟨h1, rfl⟩)]
theorem readO_ok {l : List UInt8} {x : Int} (h : readO l = some x) : okP (cutD (unsg l)).1 (cutD (unsg l)).2 ∧ (unsg l).length ≤ 60 ∧ sgL l (headZ (cutD (unsg l)).1 (cutD (unsg l)).2) = x := by
  obtain ⟨h1, rfl⟩ := readO_iff.1 h
  exact ⟨(show_read h1).1, show_len h1, (show_read h1).2⟩
end Go.Proofs.YtgohbkkeppknoaaGreatDoor
end
section
set_option linter.unusedVariables false
namespace Go.Proofs.YtgohbkkeppknoaaGreatDoor
open Go.RowKit
/-- Since w0 nothing old has changed, and each block of L lies whole in w. -/
def Lie (w0 : World) (L : List (Nat × TypeId × Array Value)) (w : World) : Prop := Below w0.heap.size w0 w ∧ ∀ x ∈ L, Bk w x.1 x.2.1 x.2.2
section
variable {w0 w w' : World} {L : List (Nat × TypeId × Array Value)}
theorem Lie.start (w : World) : Lie w [] w := ⟨Below.refl _ _, by simp⟩
theorem Lie.bel (h : Lie w0 L w) : Below w0.heap.size w0 w := h.1
theorem Lie.sz (h : Lie w0 L w) : w0.heap.size ≤ w.heap.size := h.1.size
theorem Lie.nx (h : Lie w0 L w) (hb : Below w.heap.size w w') : Lie w0 L w' := ⟨h.1.trans (hb.mono h.sz), fun x hx => (h.2 x hx).nx hb⟩
theorem Lie.alloc (h : Lie w0 L w) (cs : Array Value) (t : TypeId) : Lie w0 ((w.heap.size, t, cs) :: L) (w.alloc (.cells cs t)) := by
  refine ⟨h.1.alloc h.sz _, fun x hx => ?_⟩
  rcases List.mem_cons.1 hx with rfl | hx
  · exact Bk.new w t cs
  · exact (h.2 x hx).alloc _
theorem Lie.grown {g : Nat} (h : Lie w0 L w) (hg : w.grownBy w' (some g)) (hB : w0.heap.size ≤ g) (hne : ∀ x ∈ L, x.1 ≠ g) : Lie w0 L w' :=
  ⟨below_of_gb h.1 hg hB h.sz, fun x hx => (h.2 x hx).grown hg (fun e => hne x hx (by injection e))⟩
theorem Lie.set {g : Nat} {t t' : TypeId} {cs cs' : Array Value} (h : Lie w0 ((g, t, cs) :: L) w) (hg : w.grownBy w' (some g)) (hK : Bk w' g t' cs') (hB : w0.heap.size ≤ g) (hne : ∀ x ∈ L, x.1 ≠ g) : Lie w0 ((g, t', cs') :: L) w' := by
  refine ⟨below_of_gb h.1 hg hB h.sz, fun x hx => ?_⟩
  rcases List.mem_cons.1 hx with rfl | hx2
  · exact hK
  · exact (h.2 x (List.mem_cons_of_mem _ hx2)).grown hg (fun e => hne x hx2 (by injection e))
theorem Lie.drew (h : Lie w0 L w) : Lie w0 L w.drew := ⟨below_drewN h.1 1, h.2⟩
theorem Lie.drewN (h : Lie w0 L w) (n : Nat) : Lie w0 L (w.drewN n) := ⟨below_drewN h.1 n, h.2⟩
theorem Lie.sub {L' : List (Nat × TypeId × Array Value)} (h : Lie w0 L w) (hs : ∀ x ∈ L', x ∈ L) : Lie w0 L' w := ⟨h.1, fun x hx => h.2 x (hs x hx)⟩
theorem Lie.own {base n size : Nat} {e : TypeId} {v : Value} {xs : List Value} (hw : w.ownsRow base e size v n xs) (hb : Below w.heap.size w w') : w'.ownsRow base e size v n xs := own_below hw hb (Nat.le_refl _)
theorem Lie.rd {B : Nat} {A : Option Addr} {xs : List Value} (h : Lie w0 L w) (hr : Rd w0 B A xs) (hB : B ≤ w0.heap.size) : Rd w B A xs := hr.below' h.1 hB
theorem Lie.k (h : Lie w0 L w) (i : Nat) (hi : i < L.length) : Bk w (L[i]).1 (L[i]).2.1 (L[i]).2.2 := h.2 _ (List.getElem_mem hi)
end
section
variable {w : World} {g : Nat} {t : TypeId} {v0 v1 v2 v3 v4 v5 v6 v7 v8 v9 v10 : Value}
theorem Bk.cell5 (h : Bk w g t #[v0, v1, v2, v3, v4]) : w.cell? ⟨g, 0, none⟩ = some v0 ∧ w.cell? ⟨g, 1, none⟩ = some v1 ∧ w.cell? ⟨g, 2, none⟩ = some v2 ∧ w.cell? ⟨g, 3, none⟩ = some v3 ∧ w.cell? ⟨g, 4, none⟩ = some v4 :=
  ⟨by rw [h.cell]; rfl, by rw [h.cell]; rfl, by rw [h.cell]; rfl, by rw [h.cell]; rfl, by rw [h.cell]; rfl⟩
theorem Bk.cell8 (h : Bk w g t #[v0, v1, v2, v3, v4, v5, v6, v7]) : w.cell? ⟨g, 0, none⟩ = some v0 ∧ w.cell? ⟨g, 1, none⟩ = some v1 ∧ w.cell? ⟨g, 2, none⟩ = some v2 ∧ w.cell? ⟨g, 3, none⟩ = some v3 ∧ w.cell? ⟨g, 4, none⟩ = some v4 ∧ w.cell? ⟨g, 5, none⟩ = some v5 ∧ w.cell? ⟨g, 6, none⟩ = some v6 ∧ w.cell? ⟨g, 7, none⟩ = some v7 :=
  ⟨by rw [h.cell]; rfl, by rw [h.cell]; rfl, by rw [h.cell]; rfl, by rw [h.cell]; rfl, by rw [h.cell]; rfl, by rw [h.cell]; rfl, by rw [h.cell]; rfl, by rw [h.cell]; rfl⟩
theorem Bk.cell11 (h : Bk w g t #[v0, v1, v2, v3, v4, v5, v6, v7, v8, v9, v10]) : w.cell? ⟨g, 0, none⟩ = some v0 ∧ w.cell? ⟨g, 1, none⟩ = some v1 ∧ w.cell? ⟨g, 2, none⟩ = some v2 ∧ w.cell? ⟨g, 3, none⟩ = some v3 ∧ w.cell? ⟨g, 4, none⟩ = some v4 ∧ w.cell? ⟨g, 5, none⟩ = some v5 ∧ w.cell? ⟨g, 6, none⟩ = some v6 ∧ w.cell? ⟨g, 7, none⟩ = some v7 ∧ w.cell? ⟨g, 8, none⟩ = some v8 ∧ w.cell? ⟨g, 9, none⟩ = some v9 ∧ w.cell? ⟨g, 10, none⟩ = some v10 :=
  ⟨by rw [h.cell]; rfl, by rw [h.cell]; rfl, by rw [h.cell]; rfl, by rw [h.cell]; rfl, by rw [h.cell]; rfl, by rw [h.cell]; rfl, by rw [h.cell]; rfl, by rw [h.cell]; rfl, by rw [h.cell]; rfl, by rw [h.cell]; rfl, by rw [h.cell]; rfl⟩
end
end Go.Proofs.YtgohbkkeppknoaaGreatDoor
end
