/- Laid contracts of the library at this program: strconv.Atoi, strconv.Itoa, strings.Cut, strings.Split; in the words of New. No condition but those that stand in each theorem. (The first part was written by the kit's plain-laying tool for this program.) -/
import Derived.Shelf.Strconv.Itoa0
import Derived.Shelf.Strconv.Itoa1
import Derived.Shelf.LaysM
import Derived.Shelf.Strconv.Itoa2
import Derived.Shelf.Strconv.Itoa3
import Derived.Shelf.LaysC
import Derived.Shelf.Strconv.AtoiAll
import Derived.Shelf.Strings.Search1
import Derived.Shelf.Strings.Search2
import Derived.Shelf.Strings.Search3
import Derived.Shelf.Strings.Cut
import Derived.Shelf.Strings.Count
import Derived.Shelf.Strings.Split
import Derived.Shelf.Strings.SplitShaped
import Derived.Test.YtkljanjapcpbdaaDoorHp
import Derived.Test.YtkljanjapcpbdaaDoorIp1
namespace Go.Proofs.YtkljanjapcpbdaaDoor
open Go.Shelf
def sx_laysM171_ren : Go.Shelf.Ren := ⟨fun | 171 => 114 | 243 => 145 | 246 => 161 | 283 => 181 | 284 => 182 | 285 => 183 | 286 => 184 | 129 => 197 | 317 => 196 | 318 => 198 | 319 => 199 | 320 => 200 | 337 => 205 | 338 => 206 | n => n, fun | 3 => 3 | 9 => 9 | 2 => 2 | 4 => 4 | 171 => 243 | 0 => 0 | 53 => 244 | 37 => 237 | 5 => 5 | 173 => 247 | 212 => 265 | 51 => 249 | 20 => 20 | 213 => 266 | 46 => 192 | 232 => 280 | 233 => 281 | n => n, fun | 17 => 13 | 18 => 16 | 19 => 17 | n => n⟩
theorem sx_laysM171 : Go.Proofs.LaysM.n171 Tryd.prog sx_laysM171_ren := {
  mixed := by kernel_rfl
  f129 := Tryd.func197.trans (congrArg some (by kernel_rfl))
  f171 := Tryd.func114.trans (congrArg some (by kernel_rfl))
  f243 := Tryd.func145.trans (congrArg some (by kernel_rfl))
  f246 := Tryd.func161.trans (congrArg some (by kernel_rfl))
  f283 := Tryd.func181.trans (congrArg some (by kernel_rfl))
  f284 := Tryd.func182.trans (congrArg some (by kernel_rfl))
  f285 := Tryd.func183.trans (congrArg some (by kernel_rfl))
  f286 := Tryd.func184.trans (congrArg some (by kernel_rfl))
  f317 := Tryd.func196.trans (congrArg some (by kernel_rfl))
  f318 := Tryd.func198.trans (congrArg some (by kernel_rfl))
  f319 := Tryd.func199.trans (congrArg some (by kernel_rfl))
  f320 := Tryd.func200.trans (congrArg some (by kernel_rfl))
  f337 := Tryd.func205.trans (congrArg some (by kernel_rfl))
  f338 := Tryd.func206.trans (congrArg some (by kernel_rfl))
  t0 := Tryd.underlying0
  a0 := Tryd.isAgg0
  z0 := Tryd.sizeOf0
  v0 := Tryd.zeroValue0
  t2 := Tryd.underlying2
  a2 := Tryd.isAgg2
  z2 := Tryd.sizeOf2
  v2 := Tryd.zeroValue2
  t3 := Tryd.underlying3
  a3 := Tryd.isAgg3
  z3 := Tryd.sizeOf3
  v3 := Tryd.zeroValue3
  t4 := Tryd.underlying4
  a4 := Tryd.isAgg4
  z4 := Tryd.sizeOf4
  v4 := Tryd.zeroValue4
  t5 := Tryd.underlying5
  a5 := Tryd.isAgg5
  z5 := Tryd.sizeOf5
  v5 := Tryd.zeroValue5
  t9 := Tryd.underlying9
  a9 := Tryd.isAgg9
  z9 := Tryd.sizeOf9
  v9 := Tryd.zeroValue9
  t20 := Tryd.underlying20
  a20 := Tryd.isAgg20
  z20 := Tryd.sizeOf20
  v20 := Tryd.zeroValue20
  t37 := Tryd.underlying237
  a37 := Tryd.isAgg237
  z37 := Tryd.sizeOf237
  v37 := Tryd.zeroValue237
  t46 := Tryd.underlying192
  a46 := Tryd.isAgg192
  z46 := Tryd.sizeOf192
  v46 := Tryd.zeroValue192
  t51 := Tryd.underlying249
  a51 := Tryd.isAgg249
  z51 := Tryd.sizeOf249
  v51 := Tryd.zeroValue249
  t53 := Tryd.underlying244
  a53 := Tryd.isAgg244
  z53 := Tryd.sizeOf244
  v53 := Tryd.zeroValue244
  t171 := Tryd.underlying243
  a171 := Tryd.isAgg243
  z171 := Tryd.sizeOf243
  v171 := Tryd.zeroValue243
  t173 := Tryd.underlying247
  a173 := Tryd.isAgg247
  z173 := Tryd.sizeOf247
  v173 := Tryd.zeroValue247
  t212 := Tryd.underlying265
  a212 := Tryd.isAgg265
  z212 := Tryd.sizeOf265
  v212 := Tryd.zeroValue265
  t213 := Tryd.underlying266
  a213 := Tryd.isAgg266
  z213 := Tryd.sizeOf266
  t232 := Tryd.underlying280
  a232 := Tryd.isAgg280
  z232 := Tryd.sizeOf280
  v232 := Tryd.zeroValue280
  t233 := Tryd.underlying281
  a233 := Tryd.isAgg281
  z233 := Tryd.sizeOf281
  v233 := Tryd.zeroValue281
  g17 := by kernel_rfl
  g18 := by kernel_rfl
  g19 := by kernel_rfl
  i0 := by kernel_rfl
  i2 := by kernel_rfl
  i3 := by kernel_rfl
  i4 := by kernel_rfl
  i5 := by kernel_rfl
  i9 := by kernel_rfl
  i20 := by kernel_rfl
  i37 := by kernel_rfl
  i46 := by kernel_rfl
  i51 := by kernel_rfl
  i53 := by kernel_rfl
  i171 := by kernel_rfl
  i173 := by kernel_rfl
  i212 := by kernel_rfl
  i232 := by kernel_rfl
  i233 := by kernel_rfl
  m17 := by kernel_rfl
  m18 := by kernel_rfl
  m19 := by kernel_rfl }
open Go.RowKit Go.Sort Go.Lib in
theorem sx_strconv_Itoa (n : Int) (h0 : -9223372036854775808 ≤ n) (h1 : n ≤ 9223372036854775807) (w : World) (htab : Lib.TabIs Tryd.prog w "internal/strconv.uint64pow10" .u64 Lib.pow10Tab) :
    Calls Tryd.prog 114 #[.int .i64 n] w fun e w' => e = .returned (.string ⟨(Lib.itoa n).toArray⟩) ∧ ∃ k os, w' = grow (w.drewN k) os := Any.strconv_Itoa sx_laysM171 n h0 h1 w htab
def sx_laysC172_ren : Go.Shelf.Ren := ⟨fun | 172 => 144 | 244 => 159 | 245 => 160 | 247 => 176 | 279 => 177 | 280 => 178 | 281 => 179 | 282 => 180 | 287 => 193 | 316 => 194 | 171 => 114 | 205 => 195 | 321 => 203 | 322 => 204 | 243 => 145 | 246 => 161 | 283 => 181 | 284 => 182 | 285 => 183 | 286 => 184 | 129 => 197 | 317 => 196 | 318 => 198 | 319 => 199 | 320 => 200 | 337 => 205 | 338 => 206 | n => n, fun | 9 => 9 | 3 => 3 | 75 => 27 | 76 => 163 | 4 => 4 | 5 => 5 | 167 => 236 | 37 => 237 | 0 => 0 | 85 => 238 | 2 => 2 | 168 => 240 | 53 => 244 | 175 => 258 | 46 => 192 | 210 => 262 | 127 => 271 | 145 => 274 | 143 => 272 | 21 => 21 | 171 => 243 | 173 => 247 | 212 => 265 | 51 => 249 | 20 => 20 | 213 => 266 | 232 => 280 | 233 => 281 | 80 => 30 | n => n, fun | 15 => 11 | 16 => 12 | 17 => 13 | 18 => 16 | 19 => 17 | n => n⟩
theorem sx_laysC172 : Go.Proofs.LaysC.n172 Tryd.prog sx_laysC172_ren := {
  mixed := by kernel_rfl
  f129 := Tryd.func197.trans (congrArg some (by kernel_rfl))
  f171 := Tryd.func114.trans (congrArg some (by kernel_rfl))
  f172 := Tryd.func144.trans (congrArg some (by kernel_rfl))
  f205 := Tryd.func195.trans (congrArg some (by kernel_rfl))
  f243 := Tryd.func145.trans (congrArg some (by kernel_rfl))
  f244 := Tryd.func159.trans (congrArg some (by kernel_rfl))
  f245 := Tryd.func160.trans (congrArg some (by kernel_rfl))
  f246 := Tryd.func161.trans (congrArg some (by kernel_rfl))
  f247 := Tryd.func176.trans (congrArg some (by kernel_rfl))
  f279 := Tryd.func177.trans (congrArg some (by kernel_rfl))
  f280 := Tryd.func178.trans (congrArg some (by kernel_rfl))
  f281 := Tryd.func179.trans (congrArg some (by kernel_rfl))
  f282 := Tryd.func180.trans (congrArg some (by kernel_rfl))
  f283 := Tryd.func181.trans (congrArg some (by kernel_rfl))
  f284 := Tryd.func182.trans (congrArg some (by kernel_rfl))
  f285 := Tryd.func183.trans (congrArg some (by kernel_rfl))
  f286 := Tryd.func184.trans (congrArg some (by kernel_rfl))
  f287 := Tryd.func193.trans (congrArg some (by kernel_rfl))
  f316 := Tryd.func194.trans (congrArg some (by kernel_rfl))
  f317 := Tryd.func196.trans (congrArg some (by kernel_rfl))
  f318 := Tryd.func198.trans (congrArg some (by kernel_rfl))
  f319 := Tryd.func199.trans (congrArg some (by kernel_rfl))
  f320 := Tryd.func200.trans (congrArg some (by kernel_rfl))
  f321 := Tryd.func203.trans (congrArg some (by kernel_rfl))
  f322 := Tryd.func204.trans (congrArg some (by kernel_rfl))
  f337 := Tryd.func205.trans (congrArg some (by kernel_rfl))
  f338 := Tryd.func206.trans (congrArg some (by kernel_rfl))
  t0 := Tryd.underlying0
  a0 := Tryd.isAgg0
  z0 := Tryd.sizeOf0
  v0 := Tryd.zeroValue0
  t2 := Tryd.underlying2
  a2 := Tryd.isAgg2
  z2 := Tryd.sizeOf2
  v2 := Tryd.zeroValue2
  t3 := Tryd.underlying3
  a3 := Tryd.isAgg3
  z3 := Tryd.sizeOf3
  v3 := Tryd.zeroValue3
  t4 := Tryd.underlying4
  a4 := Tryd.isAgg4
  z4 := Tryd.sizeOf4
  v4 := Tryd.zeroValue4
  t5 := Tryd.underlying5
  a5 := Tryd.isAgg5
  z5 := Tryd.sizeOf5
  v5 := Tryd.zeroValue5
  t9 := Tryd.underlying9
  a9 := Tryd.isAgg9
  z9 := Tryd.sizeOf9
  v9 := Tryd.zeroValue9
  t20 := Tryd.underlying20
  a20 := Tryd.isAgg20
  z20 := Tryd.sizeOf20
  v20 := Tryd.zeroValue20
  t21 := Tryd.underlying21
  a21 := Tryd.isAgg21
  z21 := Tryd.sizeOf21
  v21 := Tryd.zeroValue21
  t37 := Tryd.underlying237
  a37 := Tryd.isAgg237
  z37 := Tryd.sizeOf237
  v37 := Tryd.zeroValue237
  t46 := Tryd.underlying192
  a46 := Tryd.isAgg192
  z46 := Tryd.sizeOf192
  v46 := Tryd.zeroValue192
  t51 := Tryd.underlying249
  a51 := Tryd.isAgg249
  z51 := Tryd.sizeOf249
  v51 := Tryd.zeroValue249
  t53 := Tryd.underlying244
  a53 := Tryd.isAgg244
  z53 := Tryd.sizeOf244
  v53 := Tryd.zeroValue244
  t75 := Tryd.underlying27
  a75 := Tryd.isAgg27
  z75 := Tryd.sizeOf27
  v75 := Tryd.zeroValue27
  t76 := Tryd.underlying163
  a76 := Tryd.isAgg163
  z76 := Tryd.sizeOf163
  v76 := Tryd.zeroValue163
  t85 := Tryd.underlying238
  a85 := Tryd.isAgg238
  z85 := Tryd.sizeOf238
  v85 := Tryd.zeroValue238
  t127 := Tryd.underlying271
  a127 := Tryd.isAgg271
  z127 := Tryd.sizeOf271
  v127 := Tryd.zeroValue271
  t143 := Tryd.underlying272
  a143 := Tryd.isAgg272
  z143 := Tryd.sizeOf272
  v143 := Tryd.zeroValue272
  t145 := Tryd.underlying274
  a145 := Tryd.isAgg274
  z145 := Tryd.sizeOf274
  v145 := Tryd.zeroValue274
  t167 := Tryd.underlying236
  a167 := Tryd.isAgg236
  z167 := Tryd.sizeOf236
  v167 := Tryd.zeroValue236
  t168 := Tryd.underlying240
  a168 := Tryd.isAgg240
  z168 := Tryd.sizeOf240
  v168 := Tryd.zeroValue240
  t171 := Tryd.underlying243
  a171 := Tryd.isAgg243
  z171 := Tryd.sizeOf243
  v171 := Tryd.zeroValue243
  t173 := Tryd.underlying247
  a173 := Tryd.isAgg247
  z173 := Tryd.sizeOf247
  v173 := Tryd.zeroValue247
  t175 := Tryd.underlying258
  a175 := Tryd.isAgg258
  z175 := Tryd.sizeOf258
  v175 := Tryd.zeroValue258
  t210 := Tryd.underlying262
  a210 := Tryd.isAgg262
  z210 := Tryd.sizeOf262
  v210 := Tryd.zeroValue262
  t212 := Tryd.underlying265
  a212 := Tryd.isAgg265
  z212 := Tryd.sizeOf265
  v212 := Tryd.zeroValue265
  t213 := Tryd.underlying266
  a213 := Tryd.isAgg266
  z213 := Tryd.sizeOf266
  t232 := Tryd.underlying280
  a232 := Tryd.isAgg280
  z232 := Tryd.sizeOf280
  v232 := Tryd.zeroValue280
  t233 := Tryd.underlying281
  a233 := Tryd.isAgg281
  z233 := Tryd.sizeOf281
  v233 := Tryd.zeroValue281
  g15 := by kernel_rfl
  g16 := by kernel_rfl
  g17 := by kernel_rfl
  g18 := by kernel_rfl
  g19 := by kernel_rfl
  t80 := Tryd.underlying30
  a80 := Tryd.isAgg30
  z80 := Tryd.sizeOf30
  v80 := Tryd.zeroValue30
  i0 := by kernel_rfl
  i2 := by kernel_rfl
  i3 := by kernel_rfl
  i4 := by kernel_rfl
  i5 := by kernel_rfl
  i9 := by kernel_rfl
  i20 := by kernel_rfl
  i21 := by kernel_rfl
  i37 := by kernel_rfl
  i46 := by kernel_rfl
  i51 := by kernel_rfl
  i53 := by kernel_rfl
  i75 := by kernel_rfl
  i76 := by kernel_rfl
  i80 := by kernel_rfl
  i85 := by kernel_rfl
  i127 := by kernel_rfl
  i143 := by kernel_rfl
  i145 := by kernel_rfl
  i167 := by kernel_rfl
  i168 := by kernel_rfl
  i171 := by kernel_rfl
  i173 := by kernel_rfl
  i175 := by kernel_rfl
  i210 := by kernel_rfl
  i212 := by kernel_rfl
  i232 := by kernel_rfl
  i233 := by kernel_rfl
  m15 := by kernel_rfl
  m16 := by kernel_rfl
  m17 := by kernel_rfl
  m18 := by kernel_rfl
  m19 := by kernel_rfl
  c0 := by kernel_rfl
  c2 := by kernel_rfl
  c3 := by kernel_rfl
  c4 := by kernel_rfl
  c5 := by kernel_rfl
  c9 := by kernel_rfl
  c20 := by kernel_rfl
  c21 := by kernel_rfl
  c37 := by kernel_rfl
  c46 := by kernel_rfl
  c51 := by kernel_rfl
  c53 := by kernel_rfl
  c75 := by kernel_rfl
  c76 := by kernel_rfl
  c80 := by kernel_rfl
  c85 := by kernel_rfl
  c127 := by kernel_rfl
  c143 := by kernel_rfl
  c145 := by kernel_rfl
  c167 := by kernel_rfl
  c168 := by kernel_rfl
  c171 := by kernel_rfl
  c173 := by kernel_rfl
  c175 := by kernel_rfl
  c210 := by kernel_rfl
  c212 := by kernel_rfl
  c213 := by kernel_rfl
  c232 := by kernel_rfl
  c233 := by kernel_rfl }
open Go.RowKit in
theorem sx_strconv_Atoi_ok (s : ByteArray) (hmax : s.size ≤ 9223372036854775806) (v : Int) (h : Lib.atoiAll s.data.toList = .ok v) (w : World) :
    Calls Tryd.prog 144 #[.string s] w fun e w' => e = .returned (.tuple #[.int .i64 v, .nilIface]) ∧ (w' = w ∨ ∃ t, w' = Lib.bytesWorld w 5 t) := Any.strconv_Atoi_ok sx_laysC172 s hmax v h w
def sx_lays145_ren : Go.Shelf.Ren := ⟨fun | 145 => 110 | 220 => 142 | 219 => 157 | 217 => 169 | 225 => 170 | 224 => 171 | 267 => 172 | 266 => 188 | 314 => 189 | n => n, fun | 9 => 9 | 4 => 4 | 59 => 161 | 3 => 3 | 5 => 5 | 46 => 192 | 146 => 250 | 51 => 249 | n => n, fun | 1 => 10 | n => n⟩
theorem sx_lays145 : Go.Proofs.Lays.n145 Tryd.prog sx_lays145_ren := {
  mixed := by kernel_rfl
  f145 := Tryd.func110.trans (congrArg some (by kernel_rfl))
  f217 := Tryd.func169.trans (congrArg some (by kernel_rfl))
  f219 := Tryd.func157.trans (congrArg some (by kernel_rfl))
  f220 := Tryd.func142.trans (congrArg some (by kernel_rfl))
  f224 := Tryd.func171.trans (congrArg some (by kernel_rfl))
  f225 := Tryd.func170.trans (congrArg some (by kernel_rfl))
  f266 := Tryd.func188.trans (congrArg some (by kernel_rfl))
  f267 := Tryd.func172.trans (congrArg some (by kernel_rfl))
  f314 := Tryd.func189.trans (congrArg some (by kernel_rfl))
  t3 := Tryd.underlying3
  a3 := Tryd.isAgg3
  z3 := Tryd.sizeOf3
  v3 := Tryd.zeroValue3
  t4 := Tryd.underlying4
  a4 := Tryd.isAgg4
  z4 := Tryd.sizeOf4
  v4 := Tryd.zeroValue4
  t5 := Tryd.underlying5
  a5 := Tryd.isAgg5
  z5 := Tryd.sizeOf5
  v5 := Tryd.zeroValue5
  t9 := Tryd.underlying9
  a9 := Tryd.isAgg9
  z9 := Tryd.sizeOf9
  v9 := Tryd.zeroValue9
  t46 := Tryd.underlying192
  a46 := Tryd.isAgg192
  z46 := Tryd.sizeOf192
  v46 := Tryd.zeroValue192
  t51 := Tryd.underlying249
  a51 := Tryd.isAgg249
  z51 := Tryd.sizeOf249
  v51 := Tryd.zeroValue249
  t59 := Tryd.underlying161
  a59 := Tryd.isAgg161
  z59 := Tryd.sizeOf161
  v59 := Tryd.zeroValue161
  t146 := Tryd.underlying250
  a146 := Tryd.isAgg250
  z146 := Tryd.sizeOf250
  v146 := Tryd.zeroValue250
  g1 := by kernel_rfl }
open Go.RowKit Go.Lib in
theorem sx_strings_Cut (s sep : ByteArray) (m : Int) (w : World) (hs : s.size < 4294967281) (hm : w.cell? ⟨10, 0, none⟩ = some (.int .i64 m)) :
    Calls Tryd.prog 110 #[.string s, .string sep] w fun e w' => e = .returned (.tuple #[.string ⟨(Lib.cut s.data.toList sep.data.toList).1.toArray⟩, .string ⟨(Lib.cut s.data.toList sep.data.toList).2.1.toArray⟩, .bool (Lib.cut s.data.toList sep.data.toList).2.2]) ∧ ∃ n, w' = w.drewN n := Any.strings_Cut sx_lays145 s sep m w hs hm
def sx_lays146_ren : Go.Shelf.Ren := ⟨fun | 146 => 143 | 221 => 158 | 268 => 173 | 138 => 174 | 143 => 175 | 195 => 190 | 197 => 191 | 218 => 192 | 219 => 157 | 260 => 202 | 217 => 169 | 225 => 170 | 224 => 171 | 267 => 172 | 266 => 188 | 314 => 189 | n => n, fun | 9 => 9 | 31 => 120 | 3 => 3 | 4 => 4 | 0 => 0 | 105 => 256 | 21 => 21 | 5 => 5 | 46 => 192 | 119 => 276 | 139 => 279 | 138 => 278 | 146 => 250 | 51 => 249 | n => n, fun | 1 => 10 | 3 => 14 | 4 => 15 | n => n⟩
theorem sx_lays146 : Go.Proofs.Lays.n146 Tryd.prog sx_lays146_ren := {
  mixed := by kernel_rfl
  f138 := Tryd.func174.trans (congrArg some (by kernel_rfl))
  f143 := Tryd.func175.trans (congrArg some (by kernel_rfl))
  f146 := Tryd.func143.trans (congrArg some (by kernel_rfl))
  f195 := Tryd.func190.trans (congrArg some (by kernel_rfl))
  f197 := Tryd.func191.trans (congrArg some (by kernel_rfl))
  f217 := Tryd.func169.trans (congrArg some (by kernel_rfl))
  f218 := Tryd.func192.trans (congrArg some (by kernel_rfl))
  f219 := Tryd.func157.trans (congrArg some (by kernel_rfl))
  f221 := Tryd.func158.trans (congrArg some (by kernel_rfl))
  f224 := Tryd.func171.trans (congrArg some (by kernel_rfl))
  f225 := Tryd.func170.trans (congrArg some (by kernel_rfl))
  f260 := Tryd.func202.trans (congrArg some (by kernel_rfl))
  f266 := Tryd.func188.trans (congrArg some (by kernel_rfl))
  f267 := Tryd.func172.trans (congrArg some (by kernel_rfl))
  f268 := Tryd.func173.trans (congrArg some (by kernel_rfl))
  f314 := Tryd.func189.trans (congrArg some (by kernel_rfl))
  t0 := Tryd.underlying0
  a0 := Tryd.isAgg0
  z0 := Tryd.sizeOf0
  v0 := Tryd.zeroValue0
  t3 := Tryd.underlying3
  a3 := Tryd.isAgg3
  z3 := Tryd.sizeOf3
  v3 := Tryd.zeroValue3
  t4 := Tryd.underlying4
  a4 := Tryd.isAgg4
  z4 := Tryd.sizeOf4
  v4 := Tryd.zeroValue4
  t5 := Tryd.underlying5
  a5 := Tryd.isAgg5
  z5 := Tryd.sizeOf5
  v5 := Tryd.zeroValue5
  t9 := Tryd.underlying9
  a9 := Tryd.isAgg9
  z9 := Tryd.sizeOf9
  v9 := Tryd.zeroValue9
  t21 := Tryd.underlying21
  a21 := Tryd.isAgg21
  z21 := Tryd.sizeOf21
  v21 := Tryd.zeroValue21
  t31 := Tryd.underlying120
  a31 := Tryd.isAgg120
  z31 := Tryd.sizeOf120
  v31 := Tryd.zeroValue120
  t46 := Tryd.underlying192
  a46 := Tryd.isAgg192
  z46 := Tryd.sizeOf192
  v46 := Tryd.zeroValue192
  t51 := Tryd.underlying249
  a51 := Tryd.isAgg249
  z51 := Tryd.sizeOf249
  v51 := Tryd.zeroValue249
  t105 := Tryd.underlying256
  a105 := Tryd.isAgg256
  z105 := Tryd.sizeOf256
  v105 := Tryd.zeroValue256
  t119 := Tryd.underlying276
  a119 := Tryd.isAgg276
  z119 := Tryd.sizeOf276
  t138 := Tryd.underlying278
  a138 := Tryd.isAgg278
  z138 := Tryd.sizeOf278
  v138 := Tryd.zeroValue278
  t139 := Tryd.underlying279
  a139 := Tryd.isAgg279
  z139 := Tryd.sizeOf279
  v139 := Tryd.zeroValue279
  t146 := Tryd.underlying250
  a146 := Tryd.isAgg250
  z146 := Tryd.sizeOf250
  v146 := Tryd.zeroValue250
  g1 := by kernel_rfl
  g3 := by kernel_rfl
  g4 := by kernel_rfl }
open Go.RowKit Go.Lib in
theorem sx_strings_Split (s sep : ByteArray) (m : Int) (w : World) (hs : s.size < 4294967281) (hm : w.cell? ⟨10, 0, none⟩ = some (.int .i64 m)) (h1 : 1 ≤ sep.size) :
    Calls Tryd.prog 143 #[.string s, .string sep] w fun e w' =>
      e = .returned (.slice (some ⟨w.heap.size, 0, none⟩) (Lib.countB s sep + 1) (Lib.countB s sep + 1)) ∧ w' = w.alloc (.cells ((Lib.splitB sep 0 (Lib.countB s sep) s).map Value.string).toArray 9) := Any.strings_Split sx_lays146 (by kernel_rfl) s sep m w hs hm h1

open Go.RowKit

theorem new_grow (w : World) (k : Nat) (os : Array Obj) : New w (Go.Sort.grow (w.drewN k) os) :=
  ⟨rfl, rfl, rfl, by show w.heap.size ≤ (w.heap ++ os).size; simp, fun i hi _ => by show (w.heap ++ os)[i]? = _; rw [Array.getElem?_append_left hi]⟩
theorem new_bytes (w : World) (e : TypeId) (t : ByteArray) : New w (Lib.bytesWorld w e t) := by
  have h1 : New w (w.drew.alloc (.cells (Lib.bytesCells w e t) e)) := ((Upd.refl (fun _ => False) w).drew).alloc _
  unfold Lib.bytesWorld World.freeze
  rw [if_neg (by omega)]
  refine ⟨h1.os, h1.tape, h1.output, ?_, fun i hi hn => ?_⟩
  · show _ ≤ (Array.modify _ _ _).size
    rw [Array.size_modify]; exact h1.size
  · show (Array.modify _ _ _)[i]? = _
    rw [Array.getElem?_modify]
    have hne : ¬ w.heap.size = i := by omega
    rw [if_neg hne]
    exact h1.block i hi hn
theorem new_below {w w1 : World} (h : Below w.heap.size w w1) : New w w1 := ⟨h.os, h.tape, h.output, h.size, fun k hk _ => h.block k hk⟩

/-- What the text functions read of the library's own variables. -/
structure TxtOk (w : World) : Prop where
  ml : ∃ m, w.cell? ⟨10, 0, none⟩ = some (.int .i64 m)
  syn : ∃ te pe, w.cell? ⟨11, 0, none⟩ = some (.iface te pe)
  rng : ∃ te pe, w.cell? ⟨12, 0, none⟩ = some (.iface te pe)
  tab : Lib.TabIs Tryd.prog w "internal/strconv.uint64pow10" .u64 Lib.pow10Tab
theorem cell_new {w w1 : World} {g : Nat} {v : Value} (h : w.cell? ⟨g, 0, none⟩ = some v) (hu : New w w1) : w1.cell? ⟨g, 0, none⟩ = some v :=
  (hu.cell (World.block_lt_of_cell? w ⟨g, 0, none⟩ h) (fun x => x)).trans h
theorem TxtOk.new {w w1 : World} (h : TxtOk w) (hu : New w w1) : TxtOk w1 := by
  obtain ⟨m, h1⟩ := h.ml
  obtain ⟨t2, p2, h2⟩ := h.syn
  obtain ⟨t3, p3, h3⟩ := h.rng
  refine ⟨⟨m, cell_new h1 hu⟩, ⟨t2, p2, cell_new h2 hu⟩, ⟨t3, p3, cell_new h3 hu⟩, ?_⟩
  have h4 := h.tab
  unfold Lib.TabIs World.var? at h4 ⊢
  cases hg : Tryd.prog.globalNamed "internal/strconv.uint64pow10" with
  | none => rw [hg] at h4; simp at h4
  | some g =>
    rw [hg] at h4
    simp only [Option.bind_some] at h4 ⊢
    have hlt : g < w.heap.size := by
      rcases Nat.lt_or_ge g w.heap.size with h5 | h5
      · exact h5
      · rw [Array.getElem?_eq_none h5] at h4; cases h4
    rw [hu.block g hlt (fun x => x)]
    exact h4
theorem itoa_any (n : Int) (w : World) (h : TxtOk w) (h0 : -9223372036854775808 ≤ n) (h1 : n ≤ 9223372036854775807) :
    Calls Tryd.prog 114 #[.int .i64 n] w fun e w1 => e = .returned (.string ⟨(Lib.itoa n).toArray⟩) ∧ New w w1 :=
  (sx_strconv_Itoa n h0 h1 w h.tab).mono fun e w1 ⟨he, k, os, hw⟩ => ⟨he, hw ▸ new_grow w k os⟩
theorem atoi_any (s : ByteArray) (w : World) (h : TxtOk w) (hl : s.size ≤ 281474976710656) :
    Calls Tryd.prog 144 #[.string s] w fun e w1 => ((∃ v, Lib.atoiAll s.data.toList = .ok v ∧ e = .returned (.tuple #[.int .i64 v, .nilIface])) ∨ ((∀ v, Lib.atoiAll s.data.toList ≠ .ok v) ∧ ∃ x t p, e = .returned (.tuple #[.int .i64 x, .iface t (.pointer (some p))]))) ∧ New w w1 := by
  obtain ⟨t2, p2, h2⟩ := h.syn
  obtain ⟨t3, p3, h3⟩ := h.rng
  rcases hx : Lib.atoiAll s.data.toList with v | _ | _
  · refine (sx_strconv_Atoi_ok s (by omega) v hx w).mono ?_
    rintro e w1 ⟨rfl, hw⟩
    refine ⟨.inl ⟨v, rfl, rfl⟩, ?_⟩
    rcases hw with rfl | ⟨t, rfl⟩
    · exact Upd.refl _ _
    · exact new_bytes _ _ _
  · refine (Any.strconv_Atoi_syntax sx_laysC172 s hl hx (.iface t2 p2) w h2 (.inr ⟨_, _, rfl⟩) : Calls Tryd.prog 144 _ _ _).mono ?_
    rintro e w1 ⟨N, rfl, _, _, hb⟩
    exact ⟨.inr ⟨(fun v hv => by cases hv), _, _, _, rfl⟩, new_below hb⟩
  · refine (Any.strconv_Atoi_range sx_laysC172 s hl hx (.iface t3 p3) w h3 (.inr ⟨_, _, rfl⟩) : Calls Tryd.prog 144 _ _ _).mono ?_
    rintro e w1 ⟨N, rfl, _, _, hb⟩
    exact ⟨.inr ⟨(fun v hv => by cases hv), _, _, _, rfl⟩, new_below hb⟩
theorem cut_any (s sep : ByteArray) (w : World) (h : TxtOk w) (hs : s.size < 4294967281) :
    Calls Tryd.prog 110 #[.string s, .string sep] w fun e w1 => e = .returned (.tuple #[.string ⟨(Lib.cut s.data.toList sep.data.toList).1.toArray⟩, .string ⟨(Lib.cut s.data.toList sep.data.toList).2.1.toArray⟩, .bool (Lib.cut s.data.toList sep.data.toList).2.2]) ∧ New w w1 := by
  obtain ⟨m, hm⟩ := h.ml
  refine (sx_strings_Cut s sep m w hs hm).mono ?_
  rintro e w1 ⟨he, n, rfl⟩
  exact ⟨he, (Upd.refl _ _).drewN n⟩
theorem split_any (s sep : ByteArray) (w : World) (h : TxtOk w) (hs : s.size < 4294967281) (h1 : 1 ≤ sep.size) :
    Calls Tryd.prog 143 #[.string s, .string sep] w fun e w1 => ∃ g, e = .returned (.slice (some ⟨g, 0, none⟩) (Lib.countB s sep + 1) (Lib.countB s sep + 1)) ∧ w.heap.size ≤ g ∧ Blk w1 g 9 ((Lib.splitB sep 0 (Lib.countB s sep) s).map Value.string).toArray ∧ New w w1 := by
  obtain ⟨m, hm⟩ := h.ml
  refine (sx_strings_Split s sep m w hs hm h1).mono ?_
  rintro e w1 ⟨rfl, rfl⟩
  exact ⟨w.heap.size, rfl, Nat.le_refl _, Blk.new _ _ _, (Upd.refl _ _).alloc _⟩
end Go.Proofs.YtkljanjapcpbdaaDoor
