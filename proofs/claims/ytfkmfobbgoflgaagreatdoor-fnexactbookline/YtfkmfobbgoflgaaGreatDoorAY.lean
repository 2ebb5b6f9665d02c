/- Contracts of the functions of the program over slots and rows, each proved against the program itself; no condition beyond those that each theorem names. -/
import Derived.Shelf.Strings.Search3
import Derived.Shelf.Strings.Cut
import Derived.Shelf.Strings.Split
import Derived.Shelf.Strconv.AtoiAll
import Derived.Test.YtfkmfobbgoflgaaGreatDoorProg
import Derived.Test.YtfkmfobbgoflgaaGreatDoorAJ
import Derived.Test.YtfkmfobbgoflgaaGreatDoorAX
set_option linter.unusedSimpArgs false
set_option linter.unusedVariables false
set_option maxRecDepth 100000
namespace Go.Proofs
open Go.Shelf
def Tryz.laysC172_ren : Go.Shelf.Ren := ⟨fun | 172 => 114 | 244 => 161 | 245 => 162 | 247 => 215 | 279 => 216 | 280 => 217 | 281 => 218 | 282 => 219 | 287 => 251 | 316 => 252 | 171 => 64 | 205 => 253 | 321 => 276 | 322 => 277 | 243 => 134 | 246 => 187 | 283 => 230 | 284 => 231 | 285 => 232 | 286 => 233 | 129 => 260 | 317 => 259 | 318 => 261 | 319 => 262 | 320 => 263 | 337 => 279 | 338 => 280 | n => n, fun | 9 => 9 | 3 => 3 | 75 => 76 | 76 => 77 | 4 => 4 | 5 => 5 | 167 => 179 | 37 => 22 | 0 => 0 | 85 => 180 | 2 => 2 | 168 => 182 | 53 => 189 | 175 => 212 | 46 => 177 | 210 => 215 | 127 => 123 | 145 => 235 | 143 => 233 | 21 => 21 | 171 => 188 | 173 => 192 | 212 => 220 | 51 => 207 | 20 => 20 | 213 => 221 | 232 => 247 | 233 => 248 | 80 => 79 | n => n, fun | 15 => 2 | 16 => 3 | 17 => 4 | 18 => 7 | 19 => 8 | n => n⟩
theorem Tryz.laysC172 : Go.Proofs.LaysC.n172 Tryz.prog Tryz.laysC172_ren := {
 mixed := by kernel_rfl
 f129 := Tryz.func260.trans (congrArg some (by kernel_rfl))
 f171 := Tryz.func64.trans (congrArg some (by kernel_rfl))
 f172 := Tryz.func114.trans (congrArg some (by kernel_rfl))
 f205 := Tryz.func253.trans (congrArg some (by kernel_rfl))
 f243 := Tryz.func134.trans (congrArg some (by kernel_rfl))
 f244 := Tryz.func161.trans (congrArg some (by kernel_rfl))
 f245 := Tryz.func162.trans (congrArg some (by kernel_rfl))
 f246 := Tryz.func187.trans (congrArg some (by kernel_rfl))
 f247 := Tryz.func215.trans (congrArg some (by kernel_rfl))
 f279 := Tryz.func216.trans (congrArg some (by kernel_rfl))
 f280 := Tryz.func217.trans (congrArg some (by kernel_rfl))
 f281 := Tryz.func218.trans (congrArg some (by kernel_rfl))
 f282 := Tryz.func219.trans (congrArg some (by kernel_rfl))
 f283 := Tryz.func230.trans (congrArg some (by kernel_rfl))
 f284 := Tryz.func231.trans (congrArg some (by kernel_rfl))
 f285 := Tryz.func232.trans (congrArg some (by kernel_rfl))
 f286 := Tryz.func233.trans (congrArg some (by kernel_rfl))
 f287 := Tryz.func251.trans (congrArg some (by kernel_rfl))
 f316 := Tryz.func252.trans (congrArg some (by kernel_rfl))
 f317 := Tryz.func259.trans (congrArg some (by kernel_rfl))
 f318 := Tryz.func261.trans (congrArg some (by kernel_rfl))
 f319 := Tryz.func262.trans (congrArg some (by kernel_rfl))
 f320 := Tryz.func263.trans (congrArg some (by kernel_rfl))
 f321 := Tryz.func276.trans (congrArg some (by kernel_rfl))
 f322 := Tryz.func277.trans (congrArg some (by kernel_rfl))
 f337 := Tryz.func279.trans (congrArg some (by kernel_rfl))
 f338 := Tryz.func280.trans (congrArg some (by kernel_rfl))
 t0 := Tryz.underlying0
 a0 := Tryz.isAgg0
 z0 := Tryz.sizeOf0
 v0 := Tryz.zeroValue0
 t2 := Tryz.underlying2
 a2 := Tryz.isAgg2
 z2 := Tryz.sizeOf2
 v2 := Tryz.zeroValue2
 t3 := Tryz.underlying3
 a3 := Tryz.isAgg3
 z3 := Tryz.sizeOf3
 v3 := Tryz.zeroValue3
 t4 := Tryz.underlying4
 a4 := Tryz.isAgg4
 z4 := Tryz.sizeOf4
 v4 := Tryz.zeroValue4
 t5 := Tryz.underlying5
 a5 := Tryz.isAgg5
 z5 := Tryz.sizeOf5
 v5 := Tryz.zeroValue5
 t9 := Tryz.underlying9
 a9 := Tryz.isAgg9
 z9 := Tryz.sizeOf9
 v9 := Tryz.zeroValue9
 t20 := Tryz.underlying20
 a20 := Tryz.isAgg20
 z20 := Tryz.sizeOf20
 v20 := Tryz.zeroValue20
 t21 := Tryz.underlying21
 a21 := Tryz.isAgg21
 z21 := Tryz.sizeOf21
 v21 := Tryz.zeroValue21
 t37 := Tryz.underlying22
 a37 := Tryz.isAgg22
 z37 := Tryz.sizeOf22
 v37 := Tryz.zeroValue22
 t46 := Tryz.underlying177
 a46 := Tryz.isAgg177
 z46 := Tryz.sizeOf177
 v46 := Tryz.zeroValue177
 t51 := Tryz.underlying207
 a51 := Tryz.isAgg207
 z51 := Tryz.sizeOf207
 v51 := Tryz.zeroValue207
 t53 := Tryz.underlying189
 a53 := Tryz.isAgg189
 z53 := Tryz.sizeOf189
 v53 := Tryz.zeroValue189
 t75 := Tryz.underlying76
 a75 := Tryz.isAgg76
 z75 := Tryz.sizeOf76
 v75 := Tryz.zeroValue76
 t76 := Tryz.underlying77
 a76 := Tryz.isAgg77
 z76 := Tryz.sizeOf77
 v76 := Tryz.zeroValue77
 t85 := Tryz.underlying180
 a85 := Tryz.isAgg180
 z85 := Tryz.sizeOf180
 v85 := Tryz.zeroValue180
 t127 := Tryz.underlying123
 a127 := Tryz.isAgg123
 z127 := Tryz.sizeOf123
 v127 := Tryz.zeroValue123
 t143 := Tryz.underlying233
 a143 := Tryz.isAgg233
 z143 := Tryz.sizeOf233
 v143 := Tryz.zeroValue233
 t145 := Tryz.underlying235
 a145 := Tryz.isAgg235
 z145 := Tryz.sizeOf235
 v145 := Tryz.zeroValue235
 t167 := Tryz.underlying179
 a167 := Tryz.isAgg179
 z167 := Tryz.sizeOf179
 v167 := Tryz.zeroValue179
 t168 := Tryz.underlying182
 a168 := Tryz.isAgg182
 z168 := Tryz.sizeOf182
 v168 := Tryz.zeroValue182
 t171 := Tryz.underlying188
 a171 := Tryz.isAgg188
 z171 := Tryz.sizeOf188
 v171 := Tryz.zeroValue188
 t173 := Tryz.underlying192
 a173 := Tryz.isAgg192
 z173 := Tryz.sizeOf192
 v173 := Tryz.zeroValue192
 t175 := Tryz.underlying212
 a175 := Tryz.isAgg212
 z175 := Tryz.sizeOf212
 v175 := Tryz.zeroValue212
 t210 := Tryz.underlying215
 a210 := Tryz.isAgg215
 z210 := Tryz.sizeOf215
 v210 := Tryz.zeroValue215
 t212 := Tryz.underlying220
 a212 := Tryz.isAgg220
 z212 := Tryz.sizeOf220
 v212 := Tryz.zeroValue220
 t213 := Tryz.underlying221
 a213 := Tryz.isAgg221
 z213 := Tryz.sizeOf221
 t232 := Tryz.underlying247
 a232 := Tryz.isAgg247
 z232 := Tryz.sizeOf247
 v232 := Tryz.zeroValue247
 t233 := Tryz.underlying248
 a233 := Tryz.isAgg248
 z233 := Tryz.sizeOf248
 v233 := Tryz.zeroValue248
 g15 := by kernel_rfl
 g16 := by kernel_rfl
 g17 := by kernel_rfl
 g18 := by kernel_rfl
 g19 := by kernel_rfl
 t80 := Tryz.underlying79
 a80 := Tryz.isAgg79
 z80 := Tryz.sizeOf79
 v80 := Tryz.zeroValue79
 i0 := by kernel_rfl
 i2 := by kernel_rfl
 i3 := by kernel_rfl
 i4 := by kernel_rfl
 i5 := by kernel_rfl
 i9 := by kernel_rfl
 i20 := by kernel_rfl
 i21 := by kernel_rfl
 i37 := by kernel_rfl
 i46 := by kernel_rfl
 i51 := by kernel_rfl
 i53 := by kernel_rfl
 i75 := by kernel_rfl
 i76 := by kernel_rfl
 i80 := by kernel_rfl
 i85 := by kernel_rfl
 i127 := by kernel_rfl
 i143 := by kernel_rfl
 i145 := by kernel_rfl
 i167 := by kernel_rfl
 i168 := by kernel_rfl
 i171 := by kernel_rfl
 i173 := by kernel_rfl
 i175 := by kernel_rfl
 i210 := by kernel_rfl
 i212 := by kernel_rfl
 i232 := by kernel_rfl
 i233 := by kernel_rfl
 m15 := by kernel_rfl
 m16 := by kernel_rfl
 m17 := by kernel_rfl
 m18 := by kernel_rfl
 m19 := by kernel_rfl
 c0 := by kernel_rfl
 c2 := by kernel_rfl
 c3 := by kernel_rfl
 c4 := by kernel_rfl
 c5 := by kernel_rfl
 c9 := by kernel_rfl
 c20 := by kernel_rfl
 c21 := by kernel_rfl
 c37 := by kernel_rfl
 c46 := by kernel_rfl
 c51 := by kernel_rfl
 c53 := by kernel_rfl
 c75 := by kernel_rfl
 c76 := by kernel_rfl
 c80 := by kernel_rfl
 c85 := by kernel_rfl
 c127 := by kernel_rfl
 c143 := by kernel_rfl
 c145 := by kernel_rfl
 c167 := by kernel_rfl
 c168 := by kernel_rfl
 c171 := by kernel_rfl
 c173 := by kernel_rfl
 c175 := by kernel_rfl
 c210 := by kernel_rfl
 c212 := by kernel_rfl
 c213 := by kernel_rfl
 c232 := by kernel_rfl
 c233 := by kernel_rfl }
open Go.RowKit in
theorem Tryz.strconv_Atoi_ok (s : ByteArray) (hmax : s.size ≤ 9223372036854775806) (v : Int) (h : Lib.atoiAll s.data.toList = .ok v) (w : World) :
  Calls Tryz.prog 114 #[.string s] w fun e w' => e = .returned (.tuple #[.int .i64 v, .nilIface]) ∧ (w' = w ∨ ∃ t, w' = Lib.bytesWorld w 5 t) := Any.strconv_Atoi_ok Tryz.laysC172 s hmax v h w
open Go.RowKit in
theorem Tryz.strconv_Atoi_range (s : ByteArray) (hlim : s.size ≤ 281474976710656) (h : Lib.atoiAll s.data.toList = .range) (ev : Value) (w : World) (hv : w.cell? ⟨3, 0, none⟩ = some ev) (hev : ev = .nilIface ∨ ∃ te pe, ev = .iface te pe) :
  Calls Tryz.prog 114 #[.string s] w fun e w' => ∃ N, e = .returned (.tuple #[.int .i64 (Lib.atoiSat s.data.toList), .iface 182 (.pointer (some ⟨N, 0, none⟩))]) ∧ w.heap.size ≤ N ∧ w'.heap[N]? = some (.cells #[.string ⟨#[65, 116, 111, 105]⟩, .string s, ev] 215 (0, 0)) ∧ Below w.heap.size w w' := Any.strconv_Atoi_range Tryz.laysC172 s hlim h ev w hv hev
def Tryz.lays143_ren : Go.Shelf.Ren := ⟨fun | 143 => 115 | 219 => 159 | 217 => 209 | 225 => 210 | 224 => 211 | 267 => 212 | 266 => 246 | 314 => 247 | n => n, fun | 9 => 9 | 3 => 3 | 4 => 4 | 5 => 5 | 46 => 177 | 146 => 208 | 51 => 207 | n => n, fun | 1 => 1 | n => n⟩
theorem Tryz.lays143 : Go.Proofs.Lays.n143 Tryz.prog Tryz.lays143_ren := {
 mixed := by kernel_rfl
 f143 := Tryz.func115.trans (congrArg some (by kernel_rfl))
 f217 := Tryz.func209.trans (congrArg some (by kernel_rfl))
 f219 := Tryz.func159.trans (congrArg some (by kernel_rfl))
 f224 := Tryz.func211.trans (congrArg some (by kernel_rfl))
 f225 := Tryz.func210.trans (congrArg some (by kernel_rfl))
 f266 := Tryz.func246.trans (congrArg some (by kernel_rfl))
 f267 := Tryz.func212.trans (congrArg some (by kernel_rfl))
 f314 := Tryz.func247.trans (congrArg some (by kernel_rfl))
 t3 := Tryz.underlying3
 a3 := Tryz.isAgg3
 z3 := Tryz.sizeOf3
 v3 := Tryz.zeroValue3
 t4 := Tryz.underlying4
 a4 := Tryz.isAgg4
 z4 := Tryz.sizeOf4
 v4 := Tryz.zeroValue4
 t5 := Tryz.underlying5
 a5 := Tryz.isAgg5
 z5 := Tryz.sizeOf5
 v5 := Tryz.zeroValue5
 t9 := Tryz.underlying9
 a9 := Tryz.isAgg9
 z9 := Tryz.sizeOf9
 v9 := Tryz.zeroValue9
 t46 := Tryz.underlying177
 a46 := Tryz.isAgg177
 z46 := Tryz.sizeOf177
 v46 := Tryz.zeroValue177
 t51 := Tryz.underlying207
 a51 := Tryz.isAgg207
 z51 := Tryz.sizeOf207
 v51 := Tryz.zeroValue207
 t146 := Tryz.underlying208
 a146 := Tryz.isAgg208
 z146 := Tryz.sizeOf208
 v146 := Tryz.zeroValue208
 g1 := by kernel_rfl }
open Go.RowKit Go.Lib in
theorem Tryz.strings_Index (s sub : ByteArray) (m : Int) (w : World) (hs : s.size < 4294967281) (hm : w.cell? ⟨1, 0, none⟩ = some (.int .i64 m)) :
  Calls Tryz.prog 115 #[.string s, .string sub] w fun e w' => e = .returned (.int .i64 (Lib.index s.data.toList sub.data.toList)) ∧ w' = w := Any.strings_Index Tryz.lays143 s sub m w hs hm
def Tryz.lays146_ren : Go.Shelf.Ren := ⟨fun | 146 => 112 | 221 => 160 | 268 => 213 | 138 => 214 | 143 => 115 | 195 => 248 | 197 => 249 | 218 => 250 | 219 => 159 | 260 => 275 | 217 => 209 | 225 => 210 | 224 => 211 | 267 => 212 | 266 => 246 | 314 => 247 | n => n, fun | 9 => 9 | 31 => 58 | 3 => 3 | 4 => 4 | 0 => 0 | 105 => 210 | 21 => 21 | 5 => 5 | 46 => 177 | 119 => 242 | 139 => 245 | 138 => 244 | 146 => 208 | 51 => 207 | n => n, fun | 1 => 1 | 3 => 5 | 4 => 6 | n => n⟩
theorem Tryz.lays146 : Go.Proofs.Lays.n146 Tryz.prog Tryz.lays146_ren := {
 mixed := by kernel_rfl
 f138 := Tryz.func214.trans (congrArg some (by kernel_rfl))
 f143 := Tryz.func115.trans (congrArg some (by kernel_rfl))
 f146 := Tryz.func112.trans (congrArg some (by kernel_rfl))
 f195 := Tryz.func248.trans (congrArg some (by kernel_rfl))
 f197 := Tryz.func249.trans (congrArg some (by kernel_rfl))
 f217 := Tryz.func209.trans (congrArg some (by kernel_rfl))
 f218 := Tryz.func250.trans (congrArg some (by kernel_rfl))
 f219 := Tryz.func159.trans (congrArg some (by kernel_rfl))
 f221 := Tryz.func160.trans (congrArg some (by kernel_rfl))
 f224 := Tryz.func211.trans (congrArg some (by kernel_rfl))
 f225 := Tryz.func210.trans (congrArg some (by kernel_rfl))
 f260 := Tryz.func275.trans (congrArg some (by kernel_rfl))
 f266 := Tryz.func246.trans (congrArg some (by kernel_rfl))
 f267 := Tryz.func212.trans (congrArg some (by kernel_rfl))
 f268 := Tryz.func213.trans (congrArg some (by kernel_rfl))
 f314 := Tryz.func247.trans (congrArg some (by kernel_rfl))
 t0 := Tryz.underlying0
 a0 := Tryz.isAgg0
 z0 := Tryz.sizeOf0
 v0 := Tryz.zeroValue0
 t3 := Tryz.underlying3
 a3 := Tryz.isAgg3
 z3 := Tryz.sizeOf3
 v3 := Tryz.zeroValue3
 t4 := Tryz.underlying4
 a4 := Tryz.isAgg4
 z4 := Tryz.sizeOf4
 v4 := Tryz.zeroValue4
 t5 := Tryz.underlying5
 a5 := Tryz.isAgg5
 z5 := Tryz.sizeOf5
 v5 := Tryz.zeroValue5
 t9 := Tryz.underlying9
 a9 := Tryz.isAgg9
 z9 := Tryz.sizeOf9
 v9 := Tryz.zeroValue9
 t21 := Tryz.underlying21
 a21 := Tryz.isAgg21
 z21 := Tryz.sizeOf21
 v21 := Tryz.zeroValue21
 t31 := Tryz.underlying58
 a31 := Tryz.isAgg58
 z31 := Tryz.sizeOf58
 v31 := Tryz.zeroValue58
 t46 := Tryz.underlying177
 a46 := Tryz.isAgg177
 z46 := Tryz.sizeOf177
 v46 := Tryz.zeroValue177
 t51 := Tryz.underlying207
 a51 := Tryz.isAgg207
 z51 := Tryz.sizeOf207
 v51 := Tryz.zeroValue207
 t105 := Tryz.underlying210
 a105 := Tryz.isAgg210
 z105 := Tryz.sizeOf210
 v105 := Tryz.zeroValue210
 t119 := Tryz.underlying242
 a119 := Tryz.isAgg242
 z119 := Tryz.sizeOf242
 t138 := Tryz.underlying244
 a138 := Tryz.isAgg244
 z138 := Tryz.sizeOf244
 v138 := Tryz.zeroValue244
 t139 := Tryz.underlying245
 a139 := Tryz.isAgg245
 z139 := Tryz.sizeOf245
 v139 := Tryz.zeroValue245
 t146 := Tryz.underlying208
 a146 := Tryz.isAgg208
 z146 := Tryz.sizeOf208
 v146 := Tryz.zeroValue208
 g1 := by kernel_rfl
 g3 := by kernel_rfl
 g4 := by kernel_rfl }
open Go.RowKit Go.Lib in
theorem Tryz.strings_Split (s sep : ByteArray) (m : Int) (w : World) (hs : s.size < 4294967281) (hm : w.cell? ⟨1, 0, none⟩ = some (.int .i64 m)) (h1 : 1 ≤ sep.size) :
  Calls Tryz.prog 112 #[.string s, .string sep] w fun e w' =>
   e = .returned (.slice (some ⟨w.heap.size, 0, none⟩) (Lib.countB s sep + 1) (Lib.countB s sep + 1)) ∧ w' = w.alloc (.cells ((Lib.splitB sep 0 (Lib.countB s sep) s).map Value.string).toArray 9) := Any.strings_Split Tryz.lays146 (by kernel_rfl) s sep m w hs hm h1
end Go.Proofs
namespace Go.Proofs.Dev
open Go.RowKit
theorem Tg {w : World} {S : List Nat} {forb : Nat → Prop} (h : GB w S forb) : ∃ m : Int, w.cell? ⟨1, 0, none⟩ = some (.int .i64 m) := by
 obtain ⟨u, h1, m, rfl⟩ := h.cell (g := 1) (p := mc) (by simp [gps])
 exact ⟨m, h1⟩
theorem Th (s t : List UInt8) (hs : s.length < 2 ^ 30) : SoundAt Tryz.prog 115 [.v (tx s), .v (tx t)] (.v (.int .i64 (Go.Lib.index s t))) [.bot, .bot] := by
 refine bD (xs := [tx s, tx t]) fun w S forb hg => ?_
 obtain ⟨m, hm⟩ := Tg hg
 refine (Tryz.strings_Index ⟨s.toArray⟩ ⟨t.toArray⟩ m w (by simp; omega) hm).mono ?_
 rintro e w' ⟨rfl, rfl⟩
 exact ⟨_, [], rfl, by rw [R]; exact ⟨rfl, rfl⟩, by simp, by simp, Kept.refl _ _ _⟩
theorem Ti (s : List UInt8) (c : UInt8) (hs : s.length < 2 ^ 30) : SoundAt Tryz.prog 112 [.v (tx s), .v (tx [c])] (.os 1 (txs (DS c s))) [.bot, .bot] := by
 refine bD (xs := [tx s, tx [c]]) fun w S forb hg => ?_
 obtain ⟨m, hm⟩ := Tg hg
 refine (Tryz.strings_Split ⟨s.toArray⟩ ⟨[c].toArray⟩ m w (by simp; omega) hm (by simp)).mono ?_
 rintro e w' ⟨rfl, rfl⟩
 have hb := Zk c s
 have hl := Go.Lib.splitB_all ⟨[c].toArray⟩ (by simp) 0 _ ⟨s.toArray⟩ rfl
 have hlen : Go.Lib.countB ⟨s.toArray⟩ ⟨[c].toArray⟩ + 1 = (DS c s).length := by
  have := congrArg List.length hb
  simp only [List.length_map] at this
  rw [← this, hl]
 rw [hb, hlen]
 have hcell : ∀ j u, ((DS c s).map tx)[j]? = some u → (w.alloc (.cells ((DS c s).map tx).toArray 9)).cell? ⟨w.heap.size, 0 + j, none⟩ = some u := by
  intro j u hj
  have e : (w.alloc (.cells ((DS c s).map tx).toArray 9)).heap[w.heap.size]? = some (.cells ((DS c s).map tx).toArray 9) := by
   show (w.heap.push _)[w.heap.size]? = _
   simp
  simp only [World.cell?, e, Nat.zero_add]
  simpa using hj
 refine ⟨_, [w.heap.size], rfl, ?_, by simp, ?_, ?_⟩
 ·rw [R]
  refine ⟨some ⟨w.heap.size, 0, none⟩, (DS c s).length, by rw [Ms], by rw [Ms]; exact Nat.le_refl _, ?_⟩
  right
  refine ⟨by omega, w.heap.size, 0, (DS c s).map tx, [], rfl, rfl, ?_, ?_, hcell, W5 _, by rw [Oi]; exact au _ _⟩
  ·show w.heap.size < (w.heap.push _).size
   simp
  ·intro j hj
   have hj' : j < (DS c s).length := by omega
   refine ⟨⟨tx (DS c s)[j], hcell j _ (by simp [hj'])⟩, ?_⟩
   have e : (w.alloc (.cells ((DS c s).map tx).toArray 9)).heap[w.heap.size]? = some (.cells ((DS c s).map tx).toArray 9) := by
    show (w.heap.push _)[w.heap.size]? = _
    simp
   show (w.alloc (.cells ((DS c s).map tx).toArray 9)).frozen? ⟨w.heap.size, 0 + j, none⟩ = false
   simp only [World.frozen?, e]
   simp
 ·intro x hx
  simp at hx
  subst hx
  exact ⟨by show w.heap.size < (w.heap.push _).size; simp, Nat.le_refl _⟩
 ·exact ⟨rfl, rfl, rfl, by show w.heap.size ≤ (w.heap.push _).size; simp, fun k hk _ => KV w _ k hk, fun _ _ _ h => Up h⟩
theorem fN {c : UInt8} : ∀ {l : List UInt8}, (∀ j : Nat, l[j]? ≠ some c) → DS c l = [l]
 | [], _ => rfl
 | x :: l, h => by
   have h0 : x ≠ c := by have := h 0; simpa using this
   rw [DS, if_neg h0, fN (l := l) (fun j => by have := h (j + 1); simpa using this)]
theorem fO {c : UInt8} : ∀ {l : List UInt8} {i : Nat}, l[i]? = some c → (∀ j : Nat, j < i → l[j]? ≠ some c) → DS c l = l.take i :: DS c (l.drop (i + 1))
 | [], i, h, _ => by simp at h
 | x :: l, 0, h, _ => by
   have : x = c := by simpa using h
   rw [DS, if_pos this]; simp
 | x :: l, i + 1, h, h2 => by
   have h0 : x ≠ c := by have := h2 0 (by omega); simpa using this
   rw [DS, if_neg h0, fO (l := l) (i := i) (by simpa using h) (fun j hj => by have := h2 (j + 1) (by omega); simpa using this)]
   simp
theorem Yb (c : UInt8) : ∀ s : List UInt8, (DS c s).length ≤ s.length + 1
 | [] => by simp [DS]
 | x :: s => by
   have := Yb c s
   rw [DS]
   split
   ·simp; omega
   ·obtain ⟨p, ps, h⟩ := Li c s
    rw [h] at this ⊢
    simp at this ⊢; omega
theorem Xe (s : List UInt8) (c : UInt8) (hs : s.length < 2 ^ 30) : SoundAt Tryz.prog RM [.v (tx s), .v (.int .u8 (c.toNat : Int))] (.os 1 (txs (DS c s))) [.bot, .bot] := by
 refine AE (md := mdT) (ms := [false, false]) Xc (by simp) ?_
 simp [RN]
 refine AF (fun m E H => ∃ (k f : Nat) (done : List (List UInt8)), m = s.length - k ∧ f ≤ k ∧ k ≤ s.length ∧ (∀ j : Nat, f ≤ j → j < k → s[j]? ≠ some c) ∧ done ++ DS c (s.drop f) = DS c s ∧ done.length ≤ k ∧ H = [some (.arr 1 (txs done))] ∧
  E = [(0, .v (tx s)), (1, .v (.int .u8 (c.toNat : Int))), (5, .ls 1 0 0 done.length), (6, .v (.int .i64 (f : Int))), (7, .v (.int .i64 (k : Int)))]) s.length ⟨0, 0, [], by simp⟩ ?_
 rintro J hJ m E H ⟨k, f, done, rfl, hf, hk, hno, hc, hd, rfl, rfl⟩
 by_cases h : k < s.length
 ·by_cases he : s[k]? = some c
  ·have he' : s[k] = c := by rw [List.getElem?_eq_getElem h] at he; simpa using he
   have hcut : DS c (s.drop f) = (s.drop f).take (k - f) :: DS c (s.drop (k + 1)) := by
    rw [fO (i := k - f) (by rw [List.getElem?_drop, show f + (k - f) = k by omega]; exact he) (fun j hj => by rw [List.getElem?_drop]; exact hno _ (by omega) (by omega))]
    rw [List.drop_drop, show f + (k - f + 1) = k + 1 by omega]
   have nx := hJ (s.length - (k + 1)) [(0, .v (tx s)), (1, .v (.int .u8 (c.toNat : Int))), (5, .ls 1 0 0 (done.length + 1)), (6, .v (.int .i64 ((k : Int) + 1))), (7, .v (.int .i64 ((k : Int) + 1)))] [some (.arr 1 (txs done ++ [.v (tx ((s.drop f).take (k - f)))]))]
    ⟨k + 1, k + 1, done ++ [(s.drop f).take (k - f)], rfl, by omega, by omega, fun j h1 h2 => by omega, by rw [List.append_assoc, ← hc, hcut]; rfl, by simp; omega, by rw [Mt]; rfl, by simp⟩
   simp [Fc, h, he']
   exact ⟨⟨by omega, by omega⟩, ⟨by omega, by omega⟩, ⟨by omega, by omega⟩, _, by omega, nx⟩
  ·have he' : ¬ s[k] = c := by rw [List.getElem?_eq_getElem h] at he; simpa using he
   have nx := hJ (s.length - (k + 1)) [(0, .v (tx s)), (1, .v (.int .u8 (c.toNat : Int))), (5, .ls 1 0 0 done.length), (6, .v (.int .i64 (f : Int))), (7, .v (.int .i64 ((k : Int) + 1)))] [some (.arr 1 (txs done))]
    ⟨k + 1, f, done, rfl, by omega, by omega, fun j h1 h2 => by
     by_cases hj : j = k
     ·subst hj; exact he
     ·exact hno j h1 (by omega), hc, by omega, rfl, by simp⟩
   simp [Fc, h, he']
   exact ⟨⟨by omega, by omega⟩, _, by omega, nx⟩
 ·have hk' : k = s.length := by omega
  subst hk'
  have hcut : DS c (s.drop f) = [s.drop f] := by
   refine fN fun j hj => ?_
   rw [List.getElem?_drop] at hj
   have : f + j < s.length := (List.getElem?_eq_some_iff.1 hj).1
   exact hno _ (by omega) this hj
  rw [← hc, hcut, Mt, X5]
  simp [Fc]
  refine ⟨by omega, ⟨by omega, by omega⟩, ?_⟩
  rw [List.take_of_length_le (by simp), List.take_of_length_le (l := s.drop f) (by simp)]
theorem cI {s : List UInt8} {k : Nat} (n : Int) (h : k < s.length) : SW n (s.drop k) = if 48 ≤ s[k].toNat ∧ s[k].toNat ≤ 57 then SW (10 * n + ((s[k].toNat : Int) - 48)) (s.drop (k + 1)) else none := by
 rw [List.drop_eq_getElem_cons h, SW]
set_option maxHeartbeats 1000000 in
theorem Tj (p : List UInt8) (hp : p.length < 2 ^ 30) : SoundAt Tryz.prog Md [.v (tx p)] (.v (.int .i64 (Z3 p))) [.bot] := by
 refine AE (md := mdT) (ms := [false]) Td (by simp) ?_
 simp [Me]
 refine AA (BP (p.length : Int) 1 4) ?_
 by_cases h0 : p.length = 0
 ·have e : ¬ (1 ≤ (p.length : Int) ∧ (p.length : Int) ≤ 4) := by omega
  simp [Z3, h0]
 by_cases h4 : 4 < p.length
 ·have e : ¬ (1 ≤ (p.length : Int) ∧ (p.length : Int) ≤ 4) := by omega
  simp [Z3, h4, e]
 have e : (1 ≤ (p.length : Int) ∧ (p.length : Int) ≤ 4) := by omega
 have hl : 0 < p.length := by omega
 have hhead : p.head? = some p[0] := by rw [List.head?_eq_getElem?, List.getElem?_eq_getElem hl]
 have c48 : ((p[0].toNat : Int) = 48) ↔ p[0] = 48 := by
  have := j5 p[0] 48
  simpa using this
 have loop : ∀ Qc : AExit → ES → AH → Prop, (∀ E n, get E 2 = .v (.int .i64 0) ∨ True → get E 3 = .v (.int .i64 n) → SW 0 p = some n → Qc (.exit 0) E []) → (∀ E, get E 2 = .v (.int .i64 (-1)) → SW 0 p = none → Qc .ret E []) →
   D9 [] [0, 3, 4] (awp Tryz.prog mdT Bh) Qc [(0, .v (tx p)), (3, .v (.int .i64 0)), (4, .v (.int .i64 0))] [] := by
  intro Qc q1 q2
  refine AF (fun m E H => ∃ (k : Nat) (n : Int), m = p.length - k ∧ k ≤ p.length ∧ 0 ≤ n ∧ n < 10 ^ k ∧ SW n (p.drop k) = SW 0 p ∧ H = [] ∧ E = [(0, .v (tx p)), (3, .v (.int .i64 n)), (4, .v (.int .i64 (k : Int)))]) p.length ⟨0, 0, by simp⟩ ?_
  rintro J hJ m E H ⟨k, n, rfl, hk, hn0, hn, hd, rfl, rfl⟩
  have h10 : (10 : Int) ^ k ≤ 10000 := by
   have : k = 0 ∨ k = 1 ∨ k = 2 ∨ k = 3 ∨ k = 4 := by omega
   rcases this with rfl | rfl | rfl | rfl | rfl <;> decide
  by_cases h : k < p.length
  ·rw [cI n h] at hd
   by_cases hc : 48 ≤ p[k].toNat ∧ p[k].toNat ≤ 57
   ·rw [if_pos hc] at hd
    have a1 : ¬ ((p[k].toNat : Int) < 48) := by omega
    have a2 : ¬ ((57 : Int) < (p[k].toNat : Int)) := by omega
    have nx := hJ (p.length - (k + 1)) [(0, .v (tx p)), (3, .v (.int .i64 (10 * n + ((p[k].toNat : Int) - 48)))), (4, .v (.int .i64 ((k : Int) + 1)))] []
     ⟨k + 1, 10 * n + ((p[k].toNat : Int) - 48), rfl, by omega, by omega, by rw [Int.pow_succ]; omega, hd, rfl, by simp⟩
    simp [Bh, h, a1, a2]
    have hb : (p[k].toNat : Int) ≤ 57 := by omega
    have hb0 : (48 : Int) ≤ (p[k].toNat : Int) := by omega
    exact ⟨⟨by omega, by omega⟩, ⟨by omega, by omega⟩, ⟨by omega, by omega⟩, ⟨by omega, by omega⟩, ⟨by omega, by omega⟩, _, by omega, nx⟩
   ·rw [if_neg hc] at hd
    by_cases a1 : (p[k].toNat : Int) < 48
    ·simp [Bh, h, a1]
     exact q2 _ rfl hd.symm
    ·have a2 : (57 : Int) < (p[k].toNat : Int) := by omega
     simp [Bh, h, a1, a2]
     exact q2 _ rfl hd.symm
  ·have hk' : k = p.length := by omega
   subst hk'
   rw [List.drop_length] at hd
   simp [Bh]
   exact q1 _ n (.inr trivial) rfl hd.symm
 by_cases h1 : 1 < p.length
 ·by_cases hz : p[0] = 48
  ·have hg : (1 : Int) < (p.length : Int) := by omega
   simp [Z3, h0, h4, e, h1, hg, hl, hhead, hz]
  ·have hg : (1 : Int) < (p.length : Int) := by omega
   have ed : Z3 p = (SW 0 p).getD (-1) := by
    unfold Z3
    rw [if_neg]
    rintro (h | h | ⟨_, h⟩)
    ·exact h0 h
    ·exact h4 h
    ·rw [hhead] at h; exact hz (by simpa using h)
   rw [ed]
   have c48' : ¬ ((p[0].toNat : Int) = 48) := fun h => hz (c48.1 h)
   simp [e, h1, hg, hz, hl, c48']
   refine loop _ ?_ ?_
   ·intro E n _ h3 hd
    simp [h3, hd]
   ·intro E h2 hd
    simp [h2, hd]
 ·have ed : Z3 p = (SW 0 p).getD (-1) := by
   unfold Z3
   rw [if_neg]
   rintro (h | h | ⟨h, _⟩)
   ·exact h0 h
   ·exact h4 h
   ·exact h1 h
  rw [ed]
  have hg : ¬ (1 : Int) < (p.length : Int) := by omega
  simp [e, h1, hg]
  refine loop _ ?_ ?_
  ·intro E n _ h3 hd
   simp [h3, hd]
  ·intro E h2 hd
   simp [h2, hd]
@[simp] abbrev Dn : Nat := 113
def Ap : ACode := .seq (.reg [.o 9 (.bin .lss 0) [.t 8, .t 7]]) <| .seq (.cond (.t 9) ( .skip) ( .exit 0)) <| .seq (.block 1 ( .seq (.reg [.m 10 8, .m 5 10]) <| .seq (.reg [.m 11 1, .m 12 0, .m 13 5, .o 14 (.iadr 1) [.t 12, .t 13], .l 15 14, .o 16 (.bin .eql 1) [.t 11, .t 15]]) <| .cond (.t 16) ( .seq (.reg [.m 17 5, .m 4 17]) <| .ret) ( .skip))) <| .reg [.o 18 (.bin .add 0) [.t 8, .k 1], .m 8 18]
def Dp : ACode := .seq (.reg [.o 4 .mv [.k 0]]) <| .seq (.seq (.reg [.m 6 0, .n 7 6, .o 8 .mv [.k 0]]) <| .block 0 ( .loop [(0, 1)] [0, 1, 7, 8] Ap)) <| .seq (.reg [.o 4 .mv [.k (-1)]]) <| .ret
theorem HL : cFn Tryz.prog Dn 19 [.t 4] Dp := ⟨Tryz.f113, _, Tryz.func113, rfl, by kernel_rfl, by kernel_rfl, by kernel_rfl, by kernel_rfl⟩
@[simp] abbrev Mj : Nat := 52
def Fh : ACode := .seq (.seq (.reg [.f 14 0 5, .l 15 14, .o 16 (.bin .lss 0) [.t 15, .k 0]]) <| .cond (.t 16) ( .seq (.reg [.o 17 (.build dz []) [], .s (.store 3) [.t 2, .t 17], .o 3 .mv [.kb false]]) <| .ret) ( .skip)) <| .seq (.seq (.reg [.m 18 4, .n 19 18, .o 20 (.bin .gtr 0) [.t 19, .k 1]]) <| .cond (.t 20) ( .reg [.m 22 4, .o 23 (.iadr 1) [.t 22, .k 1], .l 24 23, .o 25 (.call 114 []) [.t 24], .m 21 25, .e 26 0 21, .e 27 1 21, .f 28 1 5, .s (.store 1) [.t 28, .t 26]]) ( .skip)) <| .seq (.seq (.reg [.m 29 4, .n 30 29, .o 31 (.bin .gtr 0) [.t 30, .k 2]]) <| .cond (.t 31) ( .reg [.m 32 4, .o 33 (.iadr 1) [.t 32, .k 2], .l 34 33, .o 35 (.call 115 []) [.c (.v (.string ⟨#[35, 101, 110, 119, 115]⟩)), .t 34], .o 36 (.mnx false) [.k 0, .t 35], .f 37 2 5, .s (.store 1) [.t 37, .t 36]]) ( .skip)) <| .seq (.seq (.reg [.la 38 3 5, .o 39 (.call 20 []) [.t 38], .m 40 0, .o 41 (.bin .neq 1) [.t 39, .t 40]]) <| .cond (.t 41) ( .seq (.reg [.o 42 (.build dz []) [], .s (.store 3) [.t 2, .t 42], .o 3 .mv [.kb false]]) <| .ret) ( .skip)) <| .seq (.reg [.la 43 3 5, .s (.store 3) [.t 2, .t 43], .o 3 .mv [.kb true]]) <| .ret
abbrev Dq : Plan := .al (.o 12 (.call 113 []) [.t 8, .t 11]) ( .take (.o 13 (.build dz [(0, 1)]) [.t 12]) <| .al (.s (.store 3) [.t 5, .t 13]) ( .done))
abbrev JT : Plan := .al (.o 8 (.load false 1) [.c (.vp 0 [.sl 0 1 [.v (.string ⟨#[108, 97, 121]⟩), .v (.string ⟨#[108, 105, 102, 116]⟩), .v (.string ⟨#[102, 108, 105, 112]⟩), .v (.string ⟨#[102, 111, 114, 99, 101]⟩), .v (.string ⟨#[98, 97, 99, 107]⟩)]] 0)]) Dq
abbrev JU : Plan := .alt (.o 12 (.call 113 []) [.t 8, .t 11]) ( .take (.o 13 (.build dz [(0, 1)]) [.t 12]) <| .al (.o 5 (.alloc dz) []) ( .al (.s (.store 3) [.t 5, .t 13]) ( .done))) <| .al (.o 5 (.alloc dz) []) Dq
def Mk : ACode := .seq (.reg [.o 2 (.alloc dz) [], .o 3 .mv [.kb false]]) <| .seq (.reg [.m 6 0, .o 7 (.call 112 []) [.t 6, .c (.v (.string ⟨#[32]⟩))], .m 4 7]) <| .seq (.draw ( .take (.m 9 4) <| .take (.o 10 (.iadr 1) [.t 9, .k 0]) <| .alt (.o 8 (.load false 1) [.c (.vp 0 [.sl 0 1 [.v (.string ⟨#[108, 97, 121]⟩), .v (.string ⟨#[108, 105, 102, 116]⟩), .v (.string ⟨#[102, 108, 105, 112]⟩), .v (.string ⟨#[102, 111, 114, 99, 101]⟩), .v (.string ⟨#[98, 97, 99, 107]⟩)]] 0)]) ( .alt (.l 11 10) JU <| .al (.o 5 (.alloc dz) []) ( .al (.l 11 10) Dq)) <| .alt (.l 11 10) ( .alt (.o 8 (.load false 1) [.c (.vp 0 [.sl 0 1 [.v (.string ⟨#[108, 97, 121]⟩), .v (.string ⟨#[108, 105, 102, 116]⟩), .v (.string ⟨#[102, 108, 105, 112]⟩), .v (.string ⟨#[102, 111, 114, 99, 101]⟩), .v (.string ⟨#[98, 97, 99, 107]⟩)]] 0)]) JU <| .al (.o 5 (.alloc dz) []) JT) <| .al (.o 5 (.alloc dz) []) ( .alt (.o 8 (.load false 1) [.c (.vp 0 [.sl 0 1 [.v (.string ⟨#[108, 97, 121]⟩), .v (.string ⟨#[108, 105, 102, 116]⟩), .v (.string ⟨#[102, 108, 105, 112]⟩), .v (.string ⟨#[102, 111, 114, 99, 101]⟩), .v (.string ⟨#[98, 97, 99, 107]⟩)]] 0)]) ( .al (.l 11 10) Dq) <| .al (.l 11 10) JT))) <| .gc [] [0, 2, 4, 5] Fh
theorem Tk : cFn Tryz.prog Mj 44 [.c 2 true 3, .t 3] Mk := ⟨Tryz.f52, _, Tryz.func52, rfl, by kernel_rfl, by kernel_rfl, by kernel_rfl, by kernel_rfl⟩
@[simp] abbrev Ml : Nat := 56
abbrev D8 : Plan := .take (.o 22 (.bin .eql 1) [.t 17, .t 21]) <| .done
def Cb : ACode := .seq (.seq (.reg [.m 11 6, .o 12 (.bin .leq 0) [.t 11, .k 4]]) <| .cond (.t 12) ( .skip) ( .exit 0)) <| .seq (.block 1 ( .seq (.draw ( .take (.m 15 4) <| .take (.o 16 (.iadr 1) [.t 15, .k 0]) <| .take (.m 19 6) <| .alt (.l 17 16) ( .al (.o 18 (.bsl 1) [.c (.v (.string ⟨#[108, 97, 121]⟩)), .c (.v (.string ⟨#[108, 105, 102, 116]⟩)), .c (.v (.string ⟨#[102, 108, 105, 112]⟩)), .c (.v (.string ⟨#[102, 111, 114, 99, 101]⟩)), .c (.v (.string ⟨#[98, 97, 99, 107]⟩))]) ( .take (.o 20 (.iadr 1) [.t 18, .t 19]) <| .al (.l 21 20) D8)) <| .al (.o 18 (.bsl 1) [.c (.v (.string ⟨#[108, 97, 121]⟩)), .c (.v (.string ⟨#[108, 105, 102, 116]⟩)), .c (.v (.string ⟨#[102, 108, 105, 112]⟩)), .c (.v (.string ⟨#[102, 111, 114, 99, 101]⟩)), .c (.v (.string ⟨#[98, 97, 99, 107]⟩))]) ( .take (.o 20 (.iadr 1) [.t 18, .t 19]) <| .alt (.l 17 16) ( .al (.l 21 20) D8) <| .al (.l 21 20) ( .al (.l 17 16) D8)))) <| .cond (.t 22) ( .reg [.m 23 6, .f 24 0 5, .s (.store 1) [.t 24, .t 23]]) ( .skip))) <| .reg [.m 13 6, .o 14 (.bin .add 0) [.t 13, .k 1], .m 6 14]
def Bi : ACode := .seq (.seq (.reg [.m 33 7, .o 34 (.bin .leq 0) [.t 33, .k 4], .m 35 34, .mg 36 4 35 true, .g 37 (.len false) [.t 36] 35 true, .g 38 (.bin .gtr 0) [.t 37, .k 2] 35 true, .o 39 .pick [.t 35, .t 38, .kb false]]) <| .cond (.t 39) ( .skip) ( .exit 2)) <| .seq (.block 3 ( .seq (.draw ( .take (.m 42 4) <| .take (.o 43 (.iadr 1) [.t 42, .k 2]) <| .take (.m 45 7) <| .alt (.l 44 43) ( .al (.o 46 (.call 107 []) [.t 45]) ( .take (.o 47 (.bin .eql 1) [.t 44, .t 46]) <| .done)) <| .al (.o 46 (.call 107 []) [.t 45]) ( .al (.l 44 43) ( .take (.o 47 (.bin .eql 1) [.t 44, .t 46]) <| .done)))) <| .cond (.t 47) ( .reg [.m 48 7, .f 49 2 5, .s (.store 1) [.t 49, .t 48]]) ( .skip))) <| .reg [.m 40 7, .o 41 (.bin .add 0) [.t 40, .k 1], .m 7 41]
def Mm : ACode := .seq (.reg [.o 2 (.alloc dz) [], .o 3 .mv [.kb false]]) <| .seq (.reg [.m 8 0, .o 9 (.call 116 []) [.t 8, .c (.v (.int .u8 (32)))], .m 4 9]) <| .seq (.reg [.o 10 (.build dz [(0, 1)]) [.k (-1)], .o 5 (.alloc dz) [], .s (.store 3) [.t 5, .t 10]]) <| .seq (.seq (.reg [.o 6 .mv [.k 0]]) <| .block 0 ( .loop [(4, 1)] [0, 2, 4, 5, 6] Cb)) <| .seq (.seq (.reg [.m 25 4, .n 26 25, .o 27 (.bin .gtr 0) [.t 26, .k 1]]) <| .cond (.t 27) ( .reg [.m 28 4, .o 29 (.iadr 1) [.t 28, .k 1], .l 30 29, .o 31 (.call 117 []) [.t 30], .f 32 1 5, .s (.store 1) [.t 32, .t 31]]) ( .skip)) <| .seq (.seq (.reg [.o 7 .mv [.k 1]]) <| .block 2 ( .loop [(4, 1)] [0, 2, 4, 5, 7] Bi)) <| .seq (.seq (.reg [.m 50 0, .o 51 (.bin .eql 1) [.t 50, .c (.v (.string ⟨#[]⟩))], .m 52 51, .g 53 (.load true 3) [.t 5] 52 false, .g 54 (.call 48 []) [.t 53] 52 false, .mg 55 0 52 false, .g 56 (.bin .neq 1) [.t 54, .t 55] 52 false, .o 57 .pick [.t 52, .kb true, .t 56]]) <| .cond (.t 57) ( .seq (.reg [.o 58 (.build dz []) [], .s (.store 3) [.t 2, .t 58], .o 3 .mv [.kb false]]) <| .ret) ( .skip)) <| .seq (.reg [.la 59 3 5, .s (.store 3) [.t 2, .t 59], .o 3 .mv [.kb true]]) <| .ret
theorem Tl : cFn Tryz.prog Ml 60 [.c 2 true 3, .t 3] Mm := ⟨Tryz.f56, _, Tryz.func56, rfl, by kernel_rfl, by kernel_rfl, by kernel_rfl, by kernel_rfl⟩
def kAt (p : List UInt8) : Nat → Int
 | 0 => -1
 | i + 1 => if p = Ce i then (i : Int) else kAt p i
theorem iC (p : List UInt8) : kAt p 5 = Jq p := by
 by_cases h0 : p = Ce 0
 ·subst h0; decide
 by_cases h1 : p = Ce 1
 ·subst h1; decide
 by_cases h2 : p = Ce 2
 ·subst h2; decide
 by_cases h3 : p = Ce 3
 ·subst h3; decide
 by_cases h4 : p = Ce 4
 ·subst h4; decide
 have e0 : ¬ p = Ce ((0 : Nat) : Int) := h0
 have e1 : ¬ p = Ce ((1 : Nat) : Int) := h1
 have e2 : ¬ p = Ce ((2 : Nat) : Int) := h2
 have e3 : ¬ p = Ce ((3 : Nat) : Int) := h3
 have e4 : ¬ p = Ce ((4 : Nat) : Int) := h4
 rw [kAt, if_neg e4, kAt, if_neg e3, kAt, if_neg e2, kAt, if_neg e1, kAt, if_neg e0, kAt]
 simp [Jq, h0, h1, h2, h3, h4]
def wAt (p : List UInt8) : Nat → Int
 | 0 => 0
 | i + 1 => if p = ND (i + 1) then ((i : Int) + 1) else wAt p i
theorem iD (p : List UInt8) : wAt p 4 = ge p := by
 by_cases h1 : p = ND 1
 ·subst h1; decide
 by_cases h2 : p = ND 2
 ·subst h2; decide
 by_cases h3 : p = ND 3
 ·subst h3; decide
 by_cases h4 : p = ND 4
 ·subst h4; decide
 have e1 : ¬ p = ND (((0 : Nat) : Int) + 1) := h1
 have e2 : ¬ p = ND (((1 : Nat) : Int) + 1) := h2
 have e3 : ¬ p = ND (((2 : Nat) : Int) + 1) := h3
 have e4 : ¬ p = ND (((3 : Nat) : Int) + 1) := h4
 rw [wAt, if_neg e4, wAt, if_neg e3, wAt, if_neg e2, wAt, if_neg e1, wAt]
 simp [ge, h1, h2, h3, h4]
abbrev rdE (s : List UInt8) (n : Nat) (t : Nat) (k : Nat) : ES := [(0, .v (tx s)), (2, .lp 0 0 0 0), (4, .ls 1 1 0 n), (5, .lp 0 2 0 0), (t, .v (.int .i64 (k : Int)))]
abbrev rdH (ps : List (List UInt8)) (a b c : Int) : AH := [some (.box [.v (.int .i64 0), .v (.int .i64 0), .v (.int .i64 0)]), some (.arr 1 (txs ps)), some (.box [.v (.int .i64 a), .v (.int .i64 b), .v (.int .i64 c)])]
set_option maxHeartbeats 8000000 in
theorem mS (s : List UInt8) (ps : List (List UInt8)) (h0 : 0 < ps.length) (Qc : AExit → ES → AH → Prop) (hq : Qc (.exit 0) (rdE s ps.length 6 5 ++ []) (rdH ps (Jq (nth ps 0)) 0 0) ∨ True)
  (hend : ∀ E, get E 0 = .v (tx s) → get E 2 = .lp 0 0 0 0 → get E 4 = .ls 1 1 0 ps.length → get E 5 = .lp 0 2 0 0 → Qc (.exit 0) E (rdH ps (Jq (nth ps 0)) 0 0)) :
  D9 [(4, 1)] [0, 2, 4, 5, 6] (awp Tryz.prog mdT Cb) Qc (rdE s ps.length 6 0) (rdH ps (-1) 0 0) := by
 refine AF (fun m E H => ∃ k : Nat, m = 5 - k ∧ k ≤ 5 ∧ E = rdE s ps.length 6 k ∧ H = rdH ps (kAt (nth ps 0) k) 0 0) 5 ⟨0, rfl, by omega, rfl, rfl⟩ ?_
 rintro J hJ m E H ⟨k, rfl, hk, rfl, rfl⟩
 have hg : ps[0] = nth ps 0 := by simp [nth, h0]
 by_cases h5 : k = 5
 ·subst h5
  rw [iC]
  simp [Cb]
  exact hend _ rfl rfl rfl rfl
 have nx1 : nth ps 0 = Ce k → Cz J (5 - k) (rdE s ps.length 6 (k + 1)) (rdH ps k 0 0) := fun e => ⟨_, by omega, hJ _ _ _ ⟨k + 1, rfl, by omega, rfl, by rw [kAt, if_pos e]⟩⟩
 have nx2 : nth ps 0 ≠ Ce k → Cz J (5 - k) (rdE s ps.length 6 (k + 1)) (rdH ps (kAt (nth ps 0) k) 0 0) := fun e => ⟨_, by omega, hJ _ _ _ ⟨k + 1, rfl, by omega, rfl, by rw [kAt, if_neg e]⟩⟩
 generalize kAt (nth ps 0) k = q at *
 generalize nth ps 0 = x at *
 have : k = 0 ∨ k = 1 ∨ k = 2 ∨ k = 3 ∨ k = 4 := by omega
 by_cases e : x = Ce (k : Int)
 ·have nx := nx1 e
  clear nx1 nx2 hend hq
  rcases this with rfl | rfl | rfl | rfl | rfl <;>
  ·simp [Ce] at e nx
   simp [Cb, h0, hg, e]
   (repeat' first | exact nx | apply And.intro)
 ·have nx := nx2 e
  clear nx1 nx2 hend hq
  rcases this with rfl | rfl | rfl | rfl | rfl <;>
  ·simp [Ce] at e nx
   simp [Cb, h0, hg, e]
   (repeat' first | exact nx | apply And.intro)
set_option maxHeartbeats 8000000 in
theorem kO (s : List UInt8) (ps : List (List UInt8)) (a b : Int) (hp : ps.length < 2 ^ 40) (Qc : AExit → ES → AH → Prop)
  (hend : ∀ E, get E 0 = .v (tx s) → get E 2 = .lp 0 0 0 0 → get E 5 = .lp 0 2 0 0 → Qc (.exit 2) E (rdH ps a b (if 2 < ps.length then ge (nth ps 2) else 0))) :
  D9 [(4, 1)] [0, 2, 4, 5, 7] (awp Tryz.prog mdT Bi) Qc (rdE s ps.length 7 1) (rdH ps a b 0) := by
 by_cases h2 : 2 < ps.length
 case neg =>
  have h2' : ¬ (2 : Int) < (ps.length : Int) := by omega
  refine AF (fun m E H => m = 0 ∧ E = rdE s ps.length 7 1 ∧ H = rdH ps a b 0) 0 ⟨rfl, rfl, rfl⟩ ?_
  rintro J hJ m E H ⟨rfl, rfl, rfl⟩
  simp only [if_neg h2] at hend
  simp [Bi, h2']
  exact hend _ rfl rfl rfl
 have h2' : (2 : Int) < (ps.length : Int) := by omega
 rw [if_pos h2] at hend
 refine AF (fun m E H => ∃ k : Nat, m = 4 - k ∧ k ≤ 4 ∧ E = rdE s ps.length 7 (k + 1) ∧ H = rdH ps a b (wAt (nth ps 2) k)) 4 ⟨0, rfl, by omega, rfl, rfl⟩ ?_
 rintro J hJ m E H ⟨k, rfl, hk, rfl, rfl⟩
 have hg : ps[2] = nth ps 2 := by simp [nth, h2]
 by_cases h5 : k = 4
 ·subst h5
  rw [iD]
  simp [Bi]
  exact hend _ rfl rfl rfl
 have le := LR ((k : Int) + 1)
 have nx1 : nth ps 2 = ND ((k : Int) + 1) → Cz J (4 - k) (rdE s ps.length 7 (k + 2)) (rdH ps a b ((k : Int) + 1)) := fun e => ⟨_, by omega, hJ _ _ _ ⟨k + 1, rfl, by omega, rfl, by rw [wAt, if_pos e]⟩⟩
 have nx2 : nth ps 2 ≠ ND ((k : Int) + 1) → Cz J (4 - k) (rdE s ps.length 7 (k + 2)) (rdH ps a b (wAt (nth ps 2) k)) := fun e => ⟨_, by omega, hJ _ _ _ ⟨k + 1, rfl, by omega, rfl, by rw [wAt, if_neg e]⟩⟩
 have e2 : ((k + 2 : Nat) : Int) = (k : Int) + 1 + 1 := by omega
 simp only [rdE, e2] at nx1 nx2
 have hk4 : (k : Int) + 1 ≤ 4 := by omega
 generalize wAt (nth ps 2) k = q at *
 generalize nth ps 2 = x at *
 generalize hlt : ND ((k : Int) + 1) = y at *
 by_cases e : x = y
 ·have nx := nx1 e
  simp [Bi, h2, h2', hg, hk4]
  (repeat' first | omega | apply And.intro) <;>
  ·refine AA le ?_
   simp [e, h2, hg, nx]
   try omega
 ·have nx := nx2 e
  simp [Bi, h2, h2', hg, hk4]
  (repeat' first | omega | apply And.intro) <;>
  ·refine AA le ?_
   simp [e, h2, hg, nx]
   try omega
def EE : ACode := .seq (.seq (.reg [.m 50 0, .o 51 (.bin .eql 1) [.t 50, .c (.v (.string ⟨#[]⟩))], .m 52 51, .g 53 (.load true 3) [.t 5] 52 false, .g 54 (.call 48 []) [.t 53] 52 false, .mg 55 0 52 false, .g 56 (.bin .neq 1) [.t 54, .t 55] 52 false, .o 57 .pick [.t 52, .kb true, .t 56]]) <| .cond (.t 57) ( .seq (.reg [.o 58 (.build dz []) [], .s (.store 3) [.t 2, .t 58], .o 3 .mv [.kb false]]) <| .ret) ( .skip)) <| .seq (.reg [.la 59 3 5, .s (.store 3) [.t 2, .t 59], .o 3 .mv [.kb true]]) <| .ret
def Ej (d : Int × Int × Int) (b : Bool) : AV := .tup [A8 d, .v (.bool b)]
set_option maxHeartbeats 8000000 in
theorem Av (s : List UInt8) (hs : s.length < 2 ^ 30) : SoundAt Tryz.prog Ml [.v (tx s)] (Ej (Cg s) (Cf s)) [.bot] := by
 have cu := Xe s 32 hs
 have hlen := Yb 32 s
 obtain ⟨p, qs, hps⟩ := Li 32 s
 have h0 : 0 < (DS 32 s).length := by rw [hps]; simp
 have dt := Mh (SX s)
 have dx : SX s = (Jq (nth (DS 32 s) 0), if 1 < (DS 32 s).length then Z3 (nth (DS 32 s) 1) else 0, if 2 < (DS 32 s).length then ge (nth (DS 32 s) 2) else 0) := rfl
 have rb : Cf s = (decide (s ≠ []) && decide (B8 (SX s) = s)) := rfl
 have rdd : Cg s = if Cf s then SX s else (0, 0, 0) := rfl
 have l1 := Tj (nth (DS 32 s) 1) (by have := Y9 32 s 1; omega)
 refine AE (md := mdT) (ms := [false]) Tl (by simp) ?_
 simp [Mm]
 refine AA cu ?_
 generalize DS 32 s = ps at *
 simp
 refine mS s ps h0 _ (.inr trivial) ?_
 intro E e0 e2 e4 e5
 have tail : ∀ (E : ES) (b : Int), (b = if 1 < ps.length then Z3 (nth ps 1) else 0) → get E 0 = .v (tx s) → get E 2 = .lp 0 0 0 0 → get E 5 = .lp 0 2 0 0 →
   awp Tryz.prog mdT EE (Fin [RV.c 2 true 3, RV.t 3] 60 1 [false] (Ej (Cg s) (Cf s)) [AV.bot]) E (rdH ps (Jq (nth ps 0)) b (if 2 < ps.length then ge (nth ps 2) else 0)) := by
  intro E b hb e0 e2 e5
  rw [← hb] at dx
  generalize (if 2 < ps.length then ge (nth ps 2) else 0) = c at *
  generalize Jq (nth ps 0) = a at *
  rw [dx] at dt rb rdd
  simp only [A8] at dt
  generalize B8 (a, b, c) = t at *
  by_cases hs0 : s = []
  ·have rb' : Cf s = false := by rw [rb]; simp [hs0]
   rw [rdd, rb']
   subst hs0
   simp [EE, e0, e2, e5, Ej, A8]
  ·by_cases ht : t = s
   ·have rb' : Cf s = true := by rw [rb]; simp [hs0, ht]
    rw [rdd, rb']
    simp [EE, e0, e2, e5, hs0]
    refine AA dt ?_
    simp [ht, e0, e2, e5, Ej, A8]
   ·have rb' : Cf s = false := by rw [rb]; simp [ht]
    rw [rdd, rb']
    simp [EE, e0, e2, e5, hs0]
    refine AA dt ?_
    simp [ht, e0, e2, e5, Ej, A8]
 by_cases h1 : 1 < ps.length
 ·have h1' : (1 : Int) < (ps.length : Int) := by omega
  have hg1 : ps[1] = nth ps 1 := by simp [nth, h1]
  rw [if_pos h1] at tail
  simp [e0, e2, e4, e5, h1, h1', hg1]
  refine AA l1 ?_
  simp [e0, e2, e4, e5]
  refine kO s ps _ _ (by omega) _ ?_
  intro E' f0 f2 f5
  simp only [SR, if_true, RA]
  exact tail E' _ rfl f0 f2 f5
 ·have h1' : ¬ (1 : Int) < (ps.length : Int) := by omega
  rw [if_neg h1] at tail
  simp [e0, e2, e4, e5, h1, h1']
  refine kO s ps _ _ (by omega) _ ?_
  intro E' f0 f2 f5
  simp only [SR, if_true, RA]
  exact tail E' _ rfl f0 f2 f5
theorem Un (s : List UInt8) (hs : s.length < 2 ^ 30) : SoundAt Tryz.prog 114 [.v (tx s)] (.tup [.v (.int .i64 (Sa s)), .bot]) [.bot] := by
 refine bD (xs := [tx s]) fun w S forb hg => ?_
 have tup : ∀ (w' : World) (n : Int) (u : Value), R (Wl w' [] forb) (.tup [.v (.int .i64 n), .bot]) [] (.tuple #[.int .i64 n, u]) := by
  intro w' n u
  rw [R]
  refine ⟨[_, _], rfl, ?_⟩
  rw [RL]; refine ⟨[], [], _, _, rfl, rfl, by rw [R]; exact ⟨rfl, rfl⟩, ?_⟩
  rw [RL]; exact ⟨[], [], _, _, rfl, rfl, by rw [R], by rw [RL]; exact ⟨rfl, rfl⟩⟩
 rcases h : Go.Lib.atoiAll s with v | _ | _
 ·
  have e : Sa s = v := by simp [Sa, h]
  rw [e]
  refine (Tryz.strconv_Atoi_ok ⟨s.toArray⟩ (by simp; omega) v h w).mono ?_
  rintro e w' ⟨rfl, hw⟩
  refine ⟨_, [], rfl, tup _ _ _, by simp, by simp, ?_⟩
  rcases hw with rfl | ⟨t, rfl⟩
  ·exact Kept.refl _ _ _
  ·exact HB _ (Go.Lib.bytesWorld_below _ _ _)
 ·
  have e : Sa s = 0 := by simp [Sa, h]
  rw [e]
  obtain ⟨ev, h1, h2⟩ := hg.cell (g := 2) (p := fS) (by simp [gps])
  refine (Any.strconv_Atoi_syntax Tryz.laysC172 ⟨s.toArray⟩ (by simp; omega) h ev w h1 h2).mono ?_
  rintro e w' ⟨N, rfl, _, _, hb⟩
  exact ⟨_, [], rfl, tup _ _ _, by simp, by simp, HB _ hb⟩
 ·
  have e : Sa s = Go.Lib.atoiSat s := by simp [Sa, h]
  rw [e]
  obtain ⟨ev, h1, h2⟩ := hg.cell (g := 3) (p := fS) (by simp [gps])
  refine (Tryz.strconv_Atoi_range ⟨s.toArray⟩ (by simp; omega) h ev w h1 h2).mono ?_
  rintro e w' ⟨N, rfl, _, _, hb⟩
  exact ⟨_, [], rfl, tup _ _ _, by simp, by simp, HB _ hb⟩
def cf (x : List UInt8) : List (List UInt8) → Nat → Int
 | [], _ => -1
 | p :: ps, i => if x = p then i else cf x ps (i + 1)
theorem cJ {ls : List (List UInt8)} {x : List UInt8} {k : Nat} (h : k < ls.length) : cf x (ls.drop k) k = if x = ls[k] then (k : Int) else cf x (ls.drop (k + 1)) (k + 1) := by
 rw [List.drop_eq_getElem_cons h, cf]
theorem fP {ls : List (List UInt8)} {k : Nat} (h : k < ls.length) : att ls (k : Int) = ls[k] := by simp [att, h]
theorem Tm (ls : List (List UInt8)) (x : List UInt8) (hl : ls.length < 2 ^ 30) : SoundAt Tryz.prog Dn [.sl 1 1 (txs ls), .v (tx x)] (.v (.int .i64 (cf x ls 0))) [.bot, .bot] := by
 refine AE (md := mdT) (ms := [false, false]) HL (by simp) ?_
 simp [Dp]
 refine AF (fun m E H => ∃ k : Nat, m = ls.length - k ∧ k ≤ ls.length ∧ cf x (ls.drop k) k = cf x ls 0 ∧ H = [] ∧ E = [(0, .sl 1 1 (txs ls)), (1, .v (tx x)), (7, .v (.int .i64 ls.length)), (8, .v (.int .i64 (k : Int)))]) ls.length ⟨0, by simp⟩ ?_
 rintro J hJ m E H ⟨k, rfl, hk, hd, rfl, rfl⟩
 by_cases h : k < ls.length
 ·rw [cJ h] at hd
  by_cases hx : x = ls[k]
  ·rw [if_pos hx] at hd
   rw [← hd]
   simp [Ap, h, fP h, ← hx]
  ·rw [if_neg hx] at hd
   have nx := hJ (ls.length - (k + 1)) [(0, .sl 1 1 (txs ls)), (1, .v (tx x)), (7, .v (.int .i64 ls.length)), (8, .v (.int .i64 ((k : Int) + 1)))] [] ⟨k + 1, rfl, by omega, hd, rfl, by simp⟩
   simp [Ap, h, fP h, hx]
   exact ⟨⟨by omega, by omega⟩, _, by omega, nx⟩
 ·have hk' : k = ls.length := by omega
  subst hk'
  rw [List.drop_length] at hd
  rw [← hd]
  simp [Ap, cf]
def EF : ACode := .seq (.seq (.reg [.la 38 3 5, .o 39 (.call 20 []) [.t 38], .m 40 0, .o 41 (.bin .neq 1) [.t 39, .t 40]]) <| .cond (.t 41) ( .seq (.reg [.o 42 (.build dz []) [], .s (.store 3) [.t 2, .t 42], .o 3 .mv [.kb false]]) <| .ret) ( .skip)) <| .seq (.reg [.la 43 3 5, .s (.store 3) [.t 2, .t 43], .o 3 .mv [.kb true]]) <| .ret
def EG : ACode := .seq (.seq (.reg [.m 29 4, .n 30 29, .o 31 (.bin .gtr 0) [.t 30, .k 2]]) <| .cond (.t 31) ( .reg [.m 32 4, .o 33 (.iadr 1) [.t 32, .k 2], .l 34 33, .o 35 (.call 115 []) [.c (.v (.string ⟨#[35, 101, 110, 119, 115]⟩)), .t 34], .o 36 (.mnx false) [.k 0, .t 35], .f 37 2 5, .s (.store 1) [.t 37, .t 36]]) ( .skip)) <| EF
def EH : ACode := .seq (.seq (.reg [.f 14 0 5, .l 15 14, .o 16 (.bin .lss 0) [.t 15, .k 0]]) <| .cond (.t 16) ( .seq (.reg [.o 17 (.build dz []) [], .s (.store 3) [.t 2, .t 17], .o 3 .mv [.kb false]]) <| .ret) ( .skip)) <| .seq (.seq (.reg [.m 18 4, .n 19 18, .o 20 (.bin .gtr 0) [.t 19, .k 1]]) <| .cond (.t 20) ( .reg [.m 22 4, .o 23 (.iadr 1) [.t 22, .k 1], .l 24 23, .o 25 (.call 114 []) [.t 24], .m 21 25, .e 26 0 21, .e 27 1 21, .f 28 1 5, .s (.store 1) [.t 28, .t 26]]) ( .skip)) <| EG
theorem m7 : Fh = EH := rfl
abbrev fQ : List (List UInt8) := [[108, 97, 121], [108, 105, 102, 116], [102, 108, 105, 112], [102, 111, 114, 99, 101], [98, 97, 99, 107]]
abbrev du : List UInt8 := [35, 101, 110, 119, 115]
theorem dv (x : List UInt8) : cf x fQ 0 = Jq x := by
 simp only [cf, Jq, Ce]
 simp
def Yc (s : List UInt8) : Int × Int × Int := let ps := DS 32 s; (Jq (nth ps 0), if 1 < ps.length then Sa (nth ps 1) else 0, if 2 < ps.length then max 0 (Go.Lib.index du (nth ps 2)) else 0)
theorem iE : ∀ k : _root_.Fin 5, ∀ s : _root_.Fin 100, ∀ w : _root_.Fin 5, (if EN ((k.val : Int), (s.val : Int), (w.val : Int)) then decide (Yc (B8 ((k.val : Int), (s.val : Int), (w.val : Int))) = ((k.val : Int), (s.val : Int), (w.val : Int))) else true) = true := by decide +kernel
theorem dw {d : Int × Int × Int} (h : EN d = true) : Yc (B8 d) = d := by
 obtain ⟨k, s, w⟩ := d
 obtain ⟨k', s', w', rfl, rfl, rfl⟩ := SY h
 have := iE k' s' w'
 rw [if_pos h] at this
 simpa using this
theorem ZK (s : List UInt8) : (decide (B8 (Yc s) = s) && decide (s ≠ [])) = Cf s ∧ (Cf s = true → Yc s = Cg s) := dW fun e he hs => by rw [hs]; exact dw he
theorem iG {s : List UInt8} (h : Jq (nth (DS 32 s) 0) < 0) : Cf s = false := by
 cases hr : Cf s with
 | false => rfl
 | true =>
   obtain ⟨h1, h2⟩ := SZ hr
   have h3 := (ZK s).2 hr
   have h4 : (Yc s).1 = Jq (nth (DS 32 s) 0) := rfl
   rw [h3] at h4
   obtain ⟨k', s', w', e1, e2, e3⟩ := SY (k := (Cg s).1) (s := (Cg s).2.1) (w := (Cg s).2.2) h2
   omega
theorem dy {s : List UInt8} (h : ¬ Jq (nth (DS 32 s) 0) < 0) : s ≠ [] := by
 rintro rfl
 exact h (by decide)
set_option maxHeartbeats 8000000 in
theorem Aw (s : List UInt8) (hs : s.length < 2 ^ 30) : SoundAt Tryz.prog Mj [.v (tx s)] (Ej (Cg s) (Cf s)) [.bot] := by
 have cu := Ti s 32 hs
 have hlen := Yb 32 s
 obtain ⟨p, qs, hps⟩ := Li 32 s
 have h0 : 0 < (DS 32 s).length := by rw [hps]; simp
 have dt := Mi (Yc s)
 have dx : Yc s = (Jq (nth (DS 32 s) 0), if 1 < (DS 32 s).length then Sa (nth (DS 32 s) 1) else 0, if 2 < (DS 32 s).length then max 0 (Go.Lib.index du (nth (DS 32 s) 2)) else 0) := rfl
 have at1 := Un (nth (DS 32 s) 1) (by have := Y9 32 s 1; omega)
 have ix2 := Th du (nth (DS 32 s) 2) (by simp)
 have id0 := Tm fQ (nth (DS 32 s) 0) (by simp)
 rw [dv] at id0
 obtain ⟨r1, r2⟩ := ZK s
 have kn := @iG s
 have kn0 := @dy s
 have rdd : Cg s = if Cf s then SX s else (0, 0, 0) := rfl
 refine AE (md := mdT) (ms := [false]) Tk (by simp) ?_
 have T0 : ∀ E : ES, get E 0 = .v (tx s) → get E 2 = .lp 0 0 0 0 → get E 4 = .ls 1 1 0 (DS 32 s).length → get E 5 = .lp 0 2 0 0 →
   awp Tryz.prog mdT Fh (Fin [RV.c 2 true 3, RV.t 3] 44 1 [false] (Ej (Cg s) (Cf s)) [AV.bot]) E (rdH (DS 32 s) (Jq (nth (DS 32 s) 0)) 0 0) := by
  intro E e0 e2 e4 e5
  rw [m7]
  generalize DS 32 s = ps at *
  clear id0 cu
  by_cases hk : Jq (nth ps 0) < 0
  ·have rb' := kn hk
   rw [rdd, rb']
   simp [EH, e0, e2, e4, e5, hk, Ej, A8]
  have hne := kn0 hk
  rw [decide_eq_true hne, Bool.and_true] at r1
  have fin : ∀ (E : ES) (b c : Int), (b = if 1 < ps.length then Sa (nth ps 1) else 0) → (c = if 2 < ps.length then max 0 (Go.Lib.index du (nth ps 2)) else 0) → get E 0 = .v (tx s) → get E 2 = .lp 0 0 0 0 → get E 5 = .lp 0 2 0 0 →
    awp Tryz.prog mdT EF (Fin [RV.c 2 true 3, RV.t 3] 44 1 [false] (Ej (Cg s) (Cf s)) [AV.bot]) E (rdH ps (Jq (nth ps 0)) b c) := by
   intro E b c hb hc e0 e2 e5
   rw [← hb, ← hc] at dx
   generalize Jq (nth ps 0) = a at *
   rw [dx] at dt r1 r2
   simp only [A8] at dt
   generalize B8 (a, b, c) = t at *
   by_cases ht : t = s
   ·have rb' : Cf s = true := by rw [← r1]; simp [ht]
    rw [← r2 rb', rb']
    simp [EF, e0, e2, e5]
    refine AA dt ?_
    simp [ht, e0, e2, e5, Ej, A8]
   ·have rb' : Cf s = false := by rw [← r1]; simp [ht]
    rw [rdd, rb']
    simp [EF, e0, e2, e5]
    refine AA dt ?_
    simp [ht, e0, e2, e5, Ej, A8]
  have mid : ∀ (E : ES) (b : Int), (b = if 1 < ps.length then Sa (nth ps 1) else 0) → get E 0 = .v (tx s) → get E 2 = .lp 0 0 0 0 → get E 4 = .ls 1 1 0 ps.length → get E 5 = .lp 0 2 0 0 →
    awp Tryz.prog mdT EG (Fin [RV.c 2 true 3, RV.t 3] 44 1 [false] (Ej (Cg s) (Cf s)) [AV.bot]) E (rdH ps (Jq (nth ps 0)) b 0) := by
   intro E b hb e0 e2 e4 e5
   by_cases h2 : 2 < ps.length
   ·have h2' : (2 : Int) < (ps.length : Int) := by omega
    have hg2 : ps[2] = nth ps 2 := by simp [nth, h2]
    rw [if_pos h2] at fin
    simp [EG, e0, e2, e4, e5, h2, h2', hg2]
    refine AA ix2 ?_
    simp [e0, e2, e4, e5]
    refine fin _ _ _ hb ?_ ?_ ?_ ?_
    ·split <;> omega
    all_goals simp [get, e0, e2, e5]
   ·have h2' : ¬ (2 : Int) < (ps.length : Int) := by omega
    rw [if_neg h2] at fin
    simp [EG, e0, e2, e4, e5, h2, h2']
    refine fin _ _ _ hb rfl ?_ ?_ ?_ <;> simp [get, e0, e2, e5]
  by_cases h1 : 1 < ps.length
  ·have h1' : (1 : Int) < (ps.length : Int) := by omega
   have hg1 : ps[1] = nth ps 1 := by simp [nth, h1]
   rw [if_pos h1] at mid
   simp [EH, e0, e2, e4, e5, hk, h1, h1', hg1]
   refine AA at1 ?_
   simp [e0, e2, e4, e5]
   refine mid _ _ rfl ?_ ?_ ?_ ?_ <;> simp [get, e0, e2, e4, e5]
  ·have h1' : ¬ (1 : Int) < (ps.length : Int) := by omega
   rw [if_neg h1] at mid
   simp [EH, e0, e2, e4, e5, hk, h1, h1']
   refine mid _ _ rfl ?_ ?_ ?_ ?_ <;> simp [get, e0, e2, e4, e5]
 simp [Mk]
 refine AA cu ?_
 generalize DS 32 s = ps at *
 have hg0 : ps[0] = nth ps 0 := by simp [nth, h0]
 simp [h0, hg0]
 (repeat' first | omega | apply And.intro) <;>
 ·refine AA id0 ?_
  simp [txs]
  exact T0 _ rfl rfl rfl rfl
@[simp] abbrev KQ : Nat := 77
def Bp : ACode := .seq (.seq (.reg [.m 21 7, .f 22 0 2, .l 23 22, .o 24 (.bin .lss 0) [.t 21, .t 23]]) <| .cond (.t 24) ( .skip) ( .exit 2)) <| .seq (.block 3 ( .seq (.reg [.m 27 6, .f 28 0 2, .l 29 28, .o 30 (.bin .mul 0) [.t 27, .t 29], .m 31 7, .o 32 (.bin .add 0) [.t 30, .t 31], .m 8 32]) <| .seq (.reg [.f 33 2 2, .l 34 33, .m 35 8, .o 36 (.iadr 1) [.t 34, .t 35], .l 37 36]) <| .cond (.t 37) ( .reg [.m 38 5, .m 39 1, .m 40 8, .o 41 (.iadr 1) [.t 39, .t 40], .l 42 41, .o 43 (.call 78 []) [.t 42], .o 44 (.bin .add 1) [.t 38, .t 43], .m 5 44]) ( .reg [.m 45 5, .o 46 (.bin .add 1) [.t 45, .c (.v (.string ⟨#[46]⟩))], .m 5 46]))) <| .reg [.m 25 7, .o 26 (.bin .add 0) [.t 25, .k 1], .m 7 26]
def Bq : ACode := .seq (.seq (.reg [.m 12 6, .o 13 (.bin .geq 0) [.t 12, .k 0], .m 14 13, .g 15 (.load true 3) [.t 2] 14 true, .mg 16 1 14 true, .g 17 (.call 121 []) [.t 15, .t 16] 14 true, .o 18 .pick [.t 14, .t 17, .kb false]]) <| .cond (.t 18) ( .skip) ( .exit 0)) <| .seq (.block 1 ( .seq (.seq (.reg [.o 7 .mv [.k 0]]) <| .block 2 ( .loop [(1, 1)] [1, 2, 5, 6, 7] Bp)) <| .seq (.reg [.m 47 6, .o 48 (.bin .gtr 0) [.t 47, .k 0]]) <| .cond (.t 48) ( .reg [.m 49 5, .o 50 (.bin .add 1) [.t 49, .c (.v (.string ⟨#[47]⟩))], .m 5 50]) ( .skip))) <| .reg [.m 19 6, .o 20 (.bin .sub 0) [.t 19, .k 1], .m 6 20]
def KR : ACode := .seq (.reg [.o 2 .box [.t 0], .o 4 .mv [.c (.v (.string ⟨#[]⟩))]]) <| .seq (.reg [.o 5 .mv [.c (.v (.string ⟨#[]⟩))]]) <| .seq (.seq (.reg [.f 9 1 2, .l 10 9, .o 11 (.bin .sub 0) [.t 10, .k 1], .m 6 11]) <| .block 0 ( .loop [(1, 1)] [1, 2, 5, 6] Bq)) <| .seq (.reg [.m 51 5, .m 4 51]) <| .ret
theorem Qz : cFn Tryz.prog KQ 52 [.t 4] KR := ⟨Tryz.f77, _, Tryz.func77, rfl, by kernel_rfl, by kernel_rfl, by kernel_rfl, by kernel_rfl⟩
@[simp] abbrev KS : Nat := 129
def GM : ACode := .seq (.reg [.o 2 .box [.t 0], .o 3 .box [.t 1], .o 4 .mv [.c (.v (.string ⟨#[]⟩))]]) <| .seq (.seq (.reg [.la 5 3 2, .l 6 3, .o 7 (.call 102 []) [.t 5, .t 6], .o 8 (.un .not) [.t 7]]) <| .cond (.t 8) ( .seq (.reg [.o 4 .mv [.c (.v (.string ⟨#[]⟩))]]) <| .ret) ( .skip)) <| .seq (.reg [.la 9 3 2, .o 10 (.mkfn 182) [.t 3], .o 11 (.call 180 []) [.t 9, .t 10], .m 4 11]) <| .ret
theorem Q0 : cFn Tryz.prog KS 12 [.t 4] GM := ⟨Tryz.f129, _, Tryz.func129, rfl, by kernel_rfl, by kernel_rfl, by kernel_rfl, by kernel_rfl⟩
@[simp] abbrev OO : Nat := 182
def Eu : ACode := .seq (.reg [.o 3 .mv [.c (.v (.int .u8 (0)))]]) <| .seq (.seq (.reg [.l 4 1, .m 5 0, .o 6 (.iadr 1) [.t 4, .t 5], .l 7 6, .o 8 (.bin .lss 0) [.t 7, .k 0]]) <| .cond (.t 8) ( .seq (.reg [.o 3 .mv [.c (.v (.int .u8 (46)))]]) <| .ret) ( .skip)) <| .seq (.reg [.l 9 1, .m 10 0, .o 11 (.iadr 1) [.t 9, .t 10], .l 12 11, .o 13 (.conv .u8) [.t 12], .o 14 (.bin .add 0) [.c (.v (.int .u8 (48))), .t 13], .m 3 14]) <| .ret
theorem OP : cFn Tryz.prog OO 15 [.t 3] Eu := ⟨Tryz.f182, _, Tryz.func182, rfl, by kernel_rfl, by kernel_rfl, by kernel_rfl, by kernel_rfl⟩
@[simp] abbrev DY : Nat := 180
def AY : ACode := .seq (.reg [.o 22 (.bin .lss 0) [.t 21, .t 20]]) <| .seq (.cond (.t 22) ( .skip) ( .exit 2)) <| .seq (.block 3 ( .seq (.reg [.m 23 21, .m 8 23]) <| .reg [.m 24 7, .m 25 8, .m 26 1, .m 27 6, .f 28 0 2, .l 29 28, .o 30 (.bin .mul 0) [.t 27, .t 29], .m 31 8, .o 32 (.bin .add 0) [.t 30, .t 31], .o 33 (.callv []) [.t 26, .t 32], .o 34 (.iadr 1) [.t 24, .t 25], .s (.store 1) [.t 34, .t 33]])) <| .reg [.o 35 (.bin .add 0) [.t 21, .k 1], .m 21 35]
def Ax : ACode := .seq (.seq (.reg [.m 12 6, .o 13 (.bin .geq 0) [.t 12, .k 0]]) <| .cond (.t 13) ( .skip) ( .exit 0)) <| .seq (.block 1 ( .seq (.reg [.f 16 0 2, .l 17 16, .o 18 (.mksl 1 1 (.v (.int .u8 (0)))) [.t 17, .t 17], .m 7 18]) <| .seq (.seq (.reg [.m 19 7, .n 20 19, .o 21 .mv [.k 0]]) <| .block 2 ( .loop [(5, 1), (7, 1)] [1, 2, 5, 6, 7, 20, 21] AY)) <| .reg [.m 36 5, .m 37 7, .o 38 .str [.t 37], .o 39 (.bsl 1) [.t 38], .o 40 (.app 1 16 true) [.t 36, .t 39], .m 5 40])) <| .reg [.m 14 6, .o 15 (.bin .sub 0) [.t 14, .k 1], .m 6 15]
def DZ : ACode := .seq (.reg [.o 2 .box [.t 0], .o 4 .mv [.c (.v (.string ⟨#[]⟩))]]) <| .seq (.reg [.o 5 .mv [.c (.os 1 [])]]) <| .seq (.seq (.reg [.f 9 1 2, .l 10 9, .o 11 (.bin .sub 0) [.t 10, .k 1], .m 6 11]) <| .block 0 ( .loop [(5, 1)] [1, 2, 5, 6] Ax)) <| .seq (.reg [.m 41 5, .o 42 (.call 226 []) [.t 41, .c (.v (.string ⟨#[47]⟩))], .m 4 42]) <| .ret
theorem F1 : cFn Tryz.prog DY 43 [.t 4] DZ := ⟨Tryz.f180, _, Tryz.func180, rfl, by kernel_rfl, by kernel_rfl, by kernel_rfl, by kernel_rfl⟩
end Go.Proofs.Dev
