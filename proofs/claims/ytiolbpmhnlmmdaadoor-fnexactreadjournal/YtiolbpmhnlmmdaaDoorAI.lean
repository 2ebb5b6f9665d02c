/- Contracts of the functions of the program over slots and rows, each proved against the program itself; no condition beyond those that each theorem names. -/
import Derived.Test.YtiolbpmhnlmmdaaDoorRows
import Derived.ProofKit
import Derived.Test.YtiolbpmhnlmmdaaDoorAH
import Derived.Test.YtiolbpmhnlmmdaaDoorTie
import Derived.Test.YtiolbpmhnlmmdaaDoorCards
import Derived.SevenTiedAt
import Derived.ChangeMaps5
import Derived.Shelf.Strings.Search3
import Derived.Shelf.Strings.Cut
import Derived.Shelf.Strings.Split
import Derived.Shelf.Strconv.AtoiAll
import Derived.Test.YtiolbpmhnlmmdaaDoorProg

set_option linter.unusedSimpArgs false
set_option linter.unusedVariables false

namespace Go.Proofs.YtiolbpmhnlmmdaaDoor
theorem fact_mayEnter : Tryd.prog.mayEnter = true := by kernel_rfl
theorem fact_make : Tryd.prog.make = some .cut := by kernel_rfl
theorem fact_liftsFinal : Tryd.prog.liftsFinal = false := by kernel_rfl
end Go.Proofs.YtiolbpmhnlmmdaaDoor

namespace Go.Proofs.YtiolbpmhnlmmdaaDoor
open Go.ChangeShapes Go.WideShapes Go.ChangeAt Go.RowKit Go.Proofs.Dev

theorem own : ownKnob Tryd.prog.godebug = none := by kernel_rfl
theorem laidOut : laidOutB Tryd.prog = true := by kernel_rfl
theorem kStr : Tryd.prog.cellsOf 9 = 1 := by kernel_rfl
theorem rStr : Tryd.prog.readableRec 9 = true := by kernel_rfl
theorem gWords : Tryd.prog.globalNamed "loop.example/dominotilings/impl.deedWords" = some 0 := by kernel_rfl
theorem tWords : (Tryd.prog.globals[0]?).map (·.type) = some 62 := by kernel_rfl
theorem rWords : Tryd.prog.readableRec 62 = true ∧ 62 < Tryd.prog.types.size := ⟨by kernel_rfl, of_decide_eq_true (by kernel_rfl)⟩

theorem RL_one {C : Ctx} {a : AV} {v : Value} (h : R C a [] v) : RL C [a] [] [v] := by
  rw [RL]
  exact ⟨[], [], _, _, rfl, rfl, h, by rw [RL]; exact ⟨rfl, rfl⟩⟩

abbrev wordsL : List (List UInt8) := [[108, 97, 121], [108, 105, 102, 116], [102, 108, 105, 112], [102, 111, 114, 99, 101], [98, 97, 99, 107]]

/-- What the words of deeds are. -/
theorem words_of {l : List (String × DataW Unit)} {W : World} (hp : (l.all fun x => x.2.handleName?.isNone) = true) (hm : ("loop.example/dominotilings/impl.deedWords", (Rows.laid_loop_example_dominotilings_impl_deedWords : DataW Unit)) ∈ l) (h : laidMetH Tryd.prog l W) :
    R (gCtx W [] fun _ => False) (.vp 0 [.sl 0 1 (txs wordsL)] 0) [] (.pointer (some ⟨0, 0, none⟩)) := by
  rw [MakeChecks.laidMetH_plain _ _ _ hp] at h
  obtain ⟨ps, h1, _, _⟩ := h
  obtain ⟨g, t, cs, fuel, p, e1, e2, e3, e4⟩ := laid_at h1 hm
  rw [gWords] at e1; cases e1
  rw [tWords] at e2; cases e2
  exact words_view gWords Tryd.underlying62 Tryd.underlying9 kStr e3 e4

theorem gb_of {l : List (String × DataW Unit)} {W : World} (hp : (l.all fun x => x.2.handleName?.isNone) = true) (hm : ("loop.example/dominotilings/impl.deedWords", (Rows.laid_loop_example_dominotilings_impl_deedWords : DataW Unit)) ∈ l) (h : laidMetH Tryd.prog l W) (hg : GP W [] fun _ => False) : GB W [] fun _ => False := by
  refine ⟨?_, hg⟩
  show RL (gCtx W [] fun _ => False) [_] [] [_]
  rw [RL]
  exact ⟨[], [], _, _, rfl, rfl, words_of hp hm h, by rw [RL]; exact ⟨rfl, rfl⟩⟩

end Go.Proofs.YtiolbpmhnlmmdaaDoor

namespace Go.Proofs.YtiolbpmhnlmmdaaDoor
open Go.ChangeShapes Go.WideShapes Go.ChangeAt Go.RowKit Go.Proofs.Dev

theorem gSyn : Tryd.prog.globalNamed "strconv.ErrSyntax" = some 2 := by kernel_rfl
theorem gRng : Tryd.prog.globalNamed "strconv.ErrRange" = some 3 := by kernel_rfl
theorem tSyn : (Tryd.prog.globals[2]?).map (·.type) = some 68 := by kernel_rfl
theorem tRng : (Tryd.prog.globals[3]?).map (·.type) = some 68 := by kernel_rfl

theorem gp_of {l : List (String × DataW Unit)} {W : World} (hp : (l.all fun x => x.2.handleName?.isNone) = true) (hm2 : ("strconv.ErrSyntax", (Rows.laid_strconv_ErrSyntax : DataW Unit)) ∈ l) (hm3 : ("strconv.ErrRange", (Rows.laid_strconv_ErrRange : DataW Unit)) ∈ l)
    (hsh : W.ShapedOpen Tryd.prog) (h : laidMetH Tryd.prog l W) : GP W [] fun _ => False := by
  rw [MakeChecks.laidMetH_plain _ _ _ hp] at h
  obtain ⟨ps, h1, _, _⟩ := h
  intro p hpm
  simp only [gps, List.mem_cons, List.not_mem_nil, or_false] at hpm
  refine ⟨⟨by simp, by simp⟩, ?_⟩
  rcases hpm with rfl | rfl | rfl
  · obtain ⟨m, hm⟩ := cell_of_shapedOpen_int (g := 1) (zero := #[.int .i64 0]) (t := 3) hsh (of_decide_eq_true (by kernel_rfl)) (by kernel_rfl) rfl (by kernel_rfl) (by kernel_rfl) Tryd.underlying3
    exact ⟨_, hm, m, rfl⟩
  · exact err_cell h1 hm2 gSyn tSyn Tryd.underlying68
  · exact err_cell h1 hm3 gRng tRng Tryd.underlying68

theorem read_text {P : Program} {W : World} {H : Type} {enc : TypeId × Value → H} {t : TypeId} {v : Value} {d : DataW H} {p : List MemPlace} {base : Nat} (ht : P.underlying t = some .string)
    (hv : Value.okWide P W .any base t v) (h : DataW.Trod enc P W 0 (fun _ => true) true t v d p) :
    ∃ s : List UInt8, s.length ≤ 9223372036854775807 ∧ R (cin W [] fun _ => False) (.v (tx s)) [] v := by
  obtain ⟨s, rfl, _, _, hs⟩ := Go.ChangeMaps.open_string ht hv h
  refine ⟨s.data.toList, ?_, ?_⟩
  · have : s.size = s.data.toList.length := Go.Lib.size_eq s
    have hm : maxLen ≤ 9223372036854775807 := by decide
    omega
  · rw [R]
    refine ⟨rfl, ?_⟩
    show Value.string s = Value.string ⟨s.data.toList.toArray⟩
    rw [Go.Lib.mk_data]

end Go.Proofs.YtiolbpmhnlmmdaaDoor

namespace Go.Proofs
open Go.Shelf
def Tryd.laysC172_ren : Go.Shelf.Ren := ⟨fun | 172 => 59 | 244 => 78 | 245 => 79 | 247 => 94 | 279 => 95 | 280 => 96 | 281 => 97 | 282 => 98 | 287 => 121 | 316 => 122 | 171 => 47 | 205 => 123 | 321 => 139 | 322 => 140 | 243 => 74 | 246 => 90 | 283 => 114 | 284 => 115 | 285 => 116 | 286 => 117 | 129 => 134 | 317 => 133 | 318 => 135 | 319 => 136 | 320 => 137 | 337 => 142 | 338 => 143 | n => n, fun | 9 => 9 | 3 => 3 | 75 => 68 | 76 => 69 | 4 => 4 | 5 => 5 | 167 => 110 | 37 => 52 | 0 => 0 | 85 => 111 | 2 => 2 | 168 => 113 | 53 => 124 | 175 => 131 | 46 => 117 | 210 => 135 | 127 => 94 | 145 => 148 | 143 => 146 | 21 => 21 | 171 => 123 | 173 => 127 | 212 => 142 | 51 => 137 | 20 => 20 | 213 => 143 | 232 => 155 | 233 => 156 | 80 => 71 | n => n, fun | 15 => 2 | 16 => 3 | 17 => 4 | 18 => 7 | 19 => 8 | n => n⟩
theorem Tryd.laysC172 : Go.Proofs.LaysC.n172 Tryd.prog Tryd.laysC172_ren := {
  mixed := by kernel_rfl
  f129 := Tryd.func134.trans (congrArg some (by kernel_rfl))
  f171 := Tryd.func47.trans (congrArg some (by kernel_rfl))
  f172 := Tryd.func59.trans (congrArg some (by kernel_rfl))
  f205 := Tryd.func123.trans (congrArg some (by kernel_rfl))
  f243 := Tryd.func74.trans (congrArg some (by kernel_rfl))
  f244 := Tryd.func78.trans (congrArg some (by kernel_rfl))
  f245 := Tryd.func79.trans (congrArg some (by kernel_rfl))
  f246 := Tryd.func90.trans (congrArg some (by kernel_rfl))
  f247 := Tryd.func94.trans (congrArg some (by kernel_rfl))
  f279 := Tryd.func95.trans (congrArg some (by kernel_rfl))
  f280 := Tryd.func96.trans (congrArg some (by kernel_rfl))
  f281 := Tryd.func97.trans (congrArg some (by kernel_rfl))
  f282 := Tryd.func98.trans (congrArg some (by kernel_rfl))
  f283 := Tryd.func114.trans (congrArg some (by kernel_rfl))
  f284 := Tryd.func115.trans (congrArg some (by kernel_rfl))
  f285 := Tryd.func116.trans (congrArg some (by kernel_rfl))
  f286 := Tryd.func117.trans (congrArg some (by kernel_rfl))
  f287 := Tryd.func121.trans (congrArg some (by kernel_rfl))
  f316 := Tryd.func122.trans (congrArg some (by kernel_rfl))
  f317 := Tryd.func133.trans (congrArg some (by kernel_rfl))
  f318 := Tryd.func135.trans (congrArg some (by kernel_rfl))
  f319 := Tryd.func136.trans (congrArg some (by kernel_rfl))
  f320 := Tryd.func137.trans (congrArg some (by kernel_rfl))
  f321 := Tryd.func139.trans (congrArg some (by kernel_rfl))
  f322 := Tryd.func140.trans (congrArg some (by kernel_rfl))
  f337 := Tryd.func142.trans (congrArg some (by kernel_rfl))
  f338 := Tryd.func143.trans (congrArg some (by kernel_rfl))
  t0 := Tryd.underlying0
  a0 := Tryd.isAgg0
  z0 := Tryd.sizeOf0
  v0 := Tryd.zeroValue0
  t2 := Tryd.underlying2
  a2 := Tryd.isAgg2
  z2 := Tryd.sizeOf2
  v2 := Tryd.zeroValue2
  t3 := Tryd.underlying3
  a3 := Tryd.isAgg3
  z3 := Tryd.sizeOf3
  v3 := Tryd.zeroValue3
  t4 := Tryd.underlying4
  a4 := Tryd.isAgg4
  z4 := Tryd.sizeOf4
  v4 := Tryd.zeroValue4
  t5 := Tryd.underlying5
  a5 := Tryd.isAgg5
  z5 := Tryd.sizeOf5
  v5 := Tryd.zeroValue5
  t9 := Tryd.underlying9
  a9 := Tryd.isAgg9
  z9 := Tryd.sizeOf9
  v9 := Tryd.zeroValue9
  t20 := Tryd.underlying20
  a20 := Tryd.isAgg20
  z20 := Tryd.sizeOf20
  v20 := Tryd.zeroValue20
  t21 := Tryd.underlying21
  a21 := Tryd.isAgg21
  z21 := Tryd.sizeOf21
  v21 := Tryd.zeroValue21
  t37 := Tryd.underlying52
  a37 := Tryd.isAgg52
  z37 := Tryd.sizeOf52
  v37 := Tryd.zeroValue52
  t46 := Tryd.underlying117
  a46 := Tryd.isAgg117
  z46 := Tryd.sizeOf117
  v46 := Tryd.zeroValue117
  t51 := Tryd.underlying137
  a51 := Tryd.isAgg137
  z51 := Tryd.sizeOf137
  v51 := Tryd.zeroValue137
  t53 := Tryd.underlying124
  a53 := Tryd.isAgg124
  z53 := Tryd.sizeOf124
  v53 := Tryd.zeroValue124
  t75 := Tryd.underlying68
  a75 := Tryd.isAgg68
  z75 := Tryd.sizeOf68
  v75 := Tryd.zeroValue68
  t76 := Tryd.underlying69
  a76 := Tryd.isAgg69
  z76 := Tryd.sizeOf69
  v76 := Tryd.zeroValue69
  t85 := Tryd.underlying111
  a85 := Tryd.isAgg111
  z85 := Tryd.sizeOf111
  v85 := Tryd.zeroValue111
  t127 := Tryd.underlying94
  a127 := Tryd.isAgg94
  z127 := Tryd.sizeOf94
  v127 := Tryd.zeroValue94
  t143 := Tryd.underlying146
  a143 := Tryd.isAgg146
  z143 := Tryd.sizeOf146
  v143 := Tryd.zeroValue146
  t145 := Tryd.underlying148
  a145 := Tryd.isAgg148
  z145 := Tryd.sizeOf148
  v145 := Tryd.zeroValue148
  t167 := Tryd.underlying110
  a167 := Tryd.isAgg110
  z167 := Tryd.sizeOf110
  v167 := Tryd.zeroValue110
  t168 := Tryd.underlying113
  a168 := Tryd.isAgg113
  z168 := Tryd.sizeOf113
  v168 := Tryd.zeroValue113
  t171 := Tryd.underlying123
  a171 := Tryd.isAgg123
  z171 := Tryd.sizeOf123
  v171 := Tryd.zeroValue123
  t173 := Tryd.underlying127
  a173 := Tryd.isAgg127
  z173 := Tryd.sizeOf127
  v173 := Tryd.zeroValue127
  t175 := Tryd.underlying131
  a175 := Tryd.isAgg131
  z175 := Tryd.sizeOf131
  v175 := Tryd.zeroValue131
  t210 := Tryd.underlying135
  a210 := Tryd.isAgg135
  z210 := Tryd.sizeOf135
  v210 := Tryd.zeroValue135
  t212 := Tryd.underlying142
  a212 := Tryd.isAgg142
  z212 := Tryd.sizeOf142
  v212 := Tryd.zeroValue142
  t213 := Tryd.underlying143
  a213 := Tryd.isAgg143
  z213 := Tryd.sizeOf143
  t232 := Tryd.underlying155
  a232 := Tryd.isAgg155
  z232 := Tryd.sizeOf155
  v232 := Tryd.zeroValue155
  t233 := Tryd.underlying156
  a233 := Tryd.isAgg156
  z233 := Tryd.sizeOf156
  v233 := Tryd.zeroValue156
  g15 := by kernel_rfl
  g16 := by kernel_rfl
  g17 := by kernel_rfl
  g18 := by kernel_rfl
  g19 := by kernel_rfl
  t80 := Tryd.underlying71
  a80 := Tryd.isAgg71
  z80 := Tryd.sizeOf71
  v80 := Tryd.zeroValue71
  i0 := by kernel_rfl
  i2 := by kernel_rfl
  i3 := by kernel_rfl
  i4 := by kernel_rfl
  i5 := by kernel_rfl
  i9 := by kernel_rfl
  i20 := by kernel_rfl
  i21 := by kernel_rfl
  i37 := by kernel_rfl
  i46 := by kernel_rfl
  i51 := by kernel_rfl
  i53 := by kernel_rfl
  i75 := by kernel_rfl
  i76 := by kernel_rfl
  i80 := by kernel_rfl
  i85 := by kernel_rfl
  i127 := by kernel_rfl
  i143 := by kernel_rfl
  i145 := by kernel_rfl
  i167 := by kernel_rfl
  i168 := by kernel_rfl
  i171 := by kernel_rfl
  i173 := by kernel_rfl
  i175 := by kernel_rfl
  i210 := by kernel_rfl
  i212 := by kernel_rfl
  i232 := by kernel_rfl
  i233 := by kernel_rfl
  m15 := by kernel_rfl
  m16 := by kernel_rfl
  m17 := by kernel_rfl
  m18 := by kernel_rfl
  m19 := by kernel_rfl
  c0 := by kernel_rfl
  c2 := by kernel_rfl
  c3 := by kernel_rfl
  c4 := by kernel_rfl
  c5 := by kernel_rfl
  c9 := by kernel_rfl
  c20 := by kernel_rfl
  c21 := by kernel_rfl
  c37 := by kernel_rfl
  c46 := by kernel_rfl
  c51 := by kernel_rfl
  c53 := by kernel_rfl
  c75 := by kernel_rfl
  c76 := by kernel_rfl
  c80 := by kernel_rfl
  c85 := by kernel_rfl
  c127 := by kernel_rfl
  c143 := by kernel_rfl
  c145 := by kernel_rfl
  c167 := by kernel_rfl
  c168 := by kernel_rfl
  c171 := by kernel_rfl
  c173 := by kernel_rfl
  c175 := by kernel_rfl
  c210 := by kernel_rfl
  c212 := by kernel_rfl
  c213 := by kernel_rfl
  c232 := by kernel_rfl
  c233 := by kernel_rfl }
open Go.RowKit in
/-- strconv.Atoi, AT EVERY STRING THAT SPELLS AN int ('Lib.atoiAll .. = .ok v'; of whatever length: leading zeros count): v, AND NO ERROR. The world: as it was, or with the one new row that '[]byte(..)' lays. (LAID: no walk: one application.) -/
theorem Tryd.strconv_Atoi_ok (s : ByteArray) (hmax : s.size ≤ 9223372036854775806) (v : Int) (h : Lib.atoiAll s.data.toList = .ok v) (w : World) :
    Calls Tryd.prog 59 #[.string s] w fun e w' => e = .returned (.tuple #[.int .i64 v, .nilIface]) ∧ (w' = w ∨ ∃ t, w' = Lib.bytesWorld w 5 t) := Any.strconv_Atoi_ok Tryd.laysC172 s hmax v h w
open Go.RowKit in
/-- strconv.Atoi, AT EVERY NUMERAL THAT NO int HOLDS ('.range'): THE GREATEST OR THE LEAST int, BY THE SIGN ('Lib.atoiSat'), AND AN ERROR THAT IS NOT nil: a *NumError in a new block N: {Func: "Atoi", Num: s's bytes, Err: what the variable ErrRange holds}. Of what was there nothing has turned. (LAID: no walk: one application.) -/
theorem Tryd.strconv_Atoi_range (s : ByteArray) (hlim : s.size ≤ 281474976710656) (h : Lib.atoiAll s.data.toList = .range) (ev : Value) (w : World) (hv : w.cell? ⟨3, 0, none⟩ = some ev) (hev : ev = .nilIface ∨ ∃ te pe, ev = .iface te pe) :
    Calls Tryd.prog 59 #[.string s] w fun e w' => ∃ N, e = .returned (.tuple #[.int .i64 (Lib.atoiSat s.data.toList), .iface 113 (.pointer (some ⟨N, 0, none⟩))]) ∧ w.heap.size ≤ N ∧ w'.heap[N]? = some (.cells #[.string ⟨#[65, 116, 111, 105]⟩, .string s, ev] 135 (0, 0)) ∧ Below w.heap.size w w' := Any.strconv_Atoi_range Tryd.laysC172 s hlim h ev w hv hev
def Tryd.lays143_ren : Go.Shelf.Ren := ⟨fun | 143 => 60 | 219 => 80 | 217 => 99 | 225 => 100 | 224 => 101 | 267 => 102 | 266 => 124 | 314 => 125 | n => n, fun | 9 => 9 | 3 => 3 | 4 => 4 | 5 => 5 | 46 => 117 | 146 => 138 | 51 => 137 | n => n, fun | 1 => 1 | n => n⟩
theorem Tryd.lays143 : Go.Proofs.Lays.n143 Tryd.prog Tryd.lays143_ren := {
  mixed := by kernel_rfl
  f143 := Tryd.func60.trans (congrArg some (by kernel_rfl))
  f217 := Tryd.func99.trans (congrArg some (by kernel_rfl))
  f219 := Tryd.func80.trans (congrArg some (by kernel_rfl))
  f224 := Tryd.func101.trans (congrArg some (by kernel_rfl))
  f225 := Tryd.func100.trans (congrArg some (by kernel_rfl))
  f266 := Tryd.func124.trans (congrArg some (by kernel_rfl))
  f267 := Tryd.func102.trans (congrArg some (by kernel_rfl))
  f314 := Tryd.func125.trans (congrArg some (by kernel_rfl))
  t3 := Tryd.underlying3
  a3 := Tryd.isAgg3
  z3 := Tryd.sizeOf3
  v3 := Tryd.zeroValue3
  t4 := Tryd.underlying4
  a4 := Tryd.isAgg4
  z4 := Tryd.sizeOf4
  v4 := Tryd.zeroValue4
  t5 := Tryd.underlying5
  a5 := Tryd.isAgg5
  z5 := Tryd.sizeOf5
  v5 := Tryd.zeroValue5
  t9 := Tryd.underlying9
  a9 := Tryd.isAgg9
  z9 := Tryd.sizeOf9
  v9 := Tryd.zeroValue9
  t46 := Tryd.underlying117
  a46 := Tryd.isAgg117
  z46 := Tryd.sizeOf117
  v46 := Tryd.zeroValue117
  t51 := Tryd.underlying137
  a51 := Tryd.isAgg137
  z51 := Tryd.sizeOf137
  v51 := Tryd.zeroValue137
  t146 := Tryd.underlying138
  a146 := Tryd.isAgg138
  z146 := Tryd.sizeOf138
  v146 := Tryd.zeroValue138
  g1 := by kernel_rfl }
open Go.RowKit Go.Lib in
open Go.RowKit Go.Lib in
/-- strings.Index: "Index returns the index of the first instance of substr in s, or -1 if substr is not present in s.": IT RETURNS 'Lib.index s substr'; the world is as it was. (LAID: no walk: one application.) -/
theorem Tryd.strings_Index (s sub : ByteArray) (m : Int) (w : World) (hs : s.size < 4294967281) (hm : w.cell? ⟨1, 0, none⟩ = some (.int .i64 m)) :
    Calls Tryd.prog 60 #[.string s, .string sub] w fun e w' => e = .returned (.int .i64 (Lib.index s.data.toList sub.data.toList)) ∧ w' = w := Any.strings_Index Tryd.lays143 s sub m w hs hm
def Tryd.lays145_ren : Go.Shelf.Ren := ⟨fun | 145 => 61 | 220 => 81 | 219 => 80 | 217 => 99 | 225 => 100 | 224 => 101 | 267 => 102 | 266 => 124 | 314 => 125 | n => n, fun | 9 => 9 | 4 => 4 | 59 => 82 | 3 => 3 | 5 => 5 | 46 => 117 | 146 => 138 | 51 => 137 | n => n, fun | 1 => 1 | n => n⟩
theorem Tryd.lays145 : Go.Proofs.Lays.n145 Tryd.prog Tryd.lays145_ren := {
  mixed := by kernel_rfl
  f145 := Tryd.func61.trans (congrArg some (by kernel_rfl))
  f217 := Tryd.func99.trans (congrArg some (by kernel_rfl))
  f219 := Tryd.func80.trans (congrArg some (by kernel_rfl))
  f220 := Tryd.func81.trans (congrArg some (by kernel_rfl))
  f224 := Tryd.func101.trans (congrArg some (by kernel_rfl))
  f225 := Tryd.func100.trans (congrArg some (by kernel_rfl))
  f266 := Tryd.func124.trans (congrArg some (by kernel_rfl))
  f267 := Tryd.func102.trans (congrArg some (by kernel_rfl))
  f314 := Tryd.func125.trans (congrArg some (by kernel_rfl))
  t3 := Tryd.underlying3
  a3 := Tryd.isAgg3
  z3 := Tryd.sizeOf3
  v3 := Tryd.zeroValue3
  t4 := Tryd.underlying4
  a4 := Tryd.isAgg4
  z4 := Tryd.sizeOf4
  v4 := Tryd.zeroValue4
  t5 := Tryd.underlying5
  a5 := Tryd.isAgg5
  z5 := Tryd.sizeOf5
  v5 := Tryd.zeroValue5
  t9 := Tryd.underlying9
  a9 := Tryd.isAgg9
  z9 := Tryd.sizeOf9
  v9 := Tryd.zeroValue9
  t46 := Tryd.underlying117
  a46 := Tryd.isAgg117
  z46 := Tryd.sizeOf117
  v46 := Tryd.zeroValue117
  t51 := Tryd.underlying137
  a51 := Tryd.isAgg137
  z51 := Tryd.sizeOf137
  v51 := Tryd.zeroValue137
  t59 := Tryd.underlying82
  a59 := Tryd.isAgg82
  z59 := Tryd.sizeOf82
  v59 := Tryd.zeroValue82
  t146 := Tryd.underlying138
  a146 := Tryd.isAgg138
  z146 := Tryd.sizeOf138
  v146 := Tryd.zeroValue138
  g1 := by kernel_rfl }
open Go.RowKit Go.Lib in
/-- strings.Cut: "Cut slices s around the first instance of sep, returning the text before and after sep. The found result reports whether sep appears in s. If sep does not appear in s, cut returns s, "", false.": IT RETURNS 'Lib.cut s sep'; the world is as it was but for the count of draws. (LAID: no walk: one application.) -/
theorem Tryd.strings_Cut (s sep : ByteArray) (m : Int) (w : World) (hs : s.size < 4294967281) (hm : w.cell? ⟨1, 0, none⟩ = some (.int .i64 m)) :
    Calls Tryd.prog 61 #[.string s, .string sep] w fun e w' => e = .returned (.tuple #[.string ⟨(Lib.cut s.data.toList sep.data.toList).1.toArray⟩, .string ⟨(Lib.cut s.data.toList sep.data.toList).2.1.toArray⟩, .bool (Lib.cut s.data.toList sep.data.toList).2.2]) ∧ ∃ n, w' = w.drewN n := Any.strings_Cut Tryd.lays145 s sep m w hs hm
def Tryd.lays146_ren : Go.Shelf.Ren := ⟨fun | 146 => 57 | 221 => 77 | 268 => 92 | 138 => 93 | 143 => 60 | 195 => 118 | 197 => 119 | 218 => 120 | 219 => 80 | 260 => 138 | 217 => 99 | 225 => 100 | 224 => 101 | 267 => 102 | 266 => 124 | 314 => 125 | n => n, fun | 9 => 9 | 31 => 62 | 3 => 3 | 4 => 4 | 0 => 0 | 105 => 129 | 21 => 21 | 5 => 5 | 46 => 117 | 119 => 151 | 139 => 154 | 138 => 153 | 146 => 138 | 51 => 137 | n => n, fun | 1 => 1 | 3 => 5 | 4 => 6 | n => n⟩
theorem Tryd.lays146 : Go.Proofs.Lays.n146 Tryd.prog Tryd.lays146_ren := {
  mixed := by kernel_rfl
  f138 := Tryd.func93.trans (congrArg some (by kernel_rfl))
  f143 := Tryd.func60.trans (congrArg some (by kernel_rfl))
  f146 := Tryd.func57.trans (congrArg some (by kernel_rfl))
  f195 := Tryd.func118.trans (congrArg some (by kernel_rfl))
  f197 := Tryd.func119.trans (congrArg some (by kernel_rfl))
  f217 := Tryd.func99.trans (congrArg some (by kernel_rfl))
  f218 := Tryd.func120.trans (congrArg some (by kernel_rfl))
  f219 := Tryd.func80.trans (congrArg some (by kernel_rfl))
  f221 := Tryd.func77.trans (congrArg some (by kernel_rfl))
  f224 := Tryd.func101.trans (congrArg some (by kernel_rfl))
  f225 := Tryd.func100.trans (congrArg some (by kernel_rfl))
  f260 := Tryd.func138.trans (congrArg some (by kernel_rfl))
  f266 := Tryd.func124.trans (congrArg some (by kernel_rfl))
  f267 := Tryd.func102.trans (congrArg some (by kernel_rfl))
  f268 := Tryd.func92.trans (congrArg some (by kernel_rfl))
  f314 := Tryd.func125.trans (congrArg some (by kernel_rfl))
  t0 := Tryd.underlying0
  a0 := Tryd.isAgg0
  z0 := Tryd.sizeOf0
  v0 := Tryd.zeroValue0
  t3 := Tryd.underlying3
  a3 := Tryd.isAgg3
  z3 := Tryd.sizeOf3
  v3 := Tryd.zeroValue3
  t4 := Tryd.underlying4
  a4 := Tryd.isAgg4
  z4 := Tryd.sizeOf4
  v4 := Tryd.zeroValue4
  t5 := Tryd.underlying5
  a5 := Tryd.isAgg5
  z5 := Tryd.sizeOf5
  v5 := Tryd.zeroValue5
  t9 := Tryd.underlying9
  a9 := Tryd.isAgg9
  z9 := Tryd.sizeOf9
  v9 := Tryd.zeroValue9
  t21 := Tryd.underlying21
  a21 := Tryd.isAgg21
  z21 := Tryd.sizeOf21
  v21 := Tryd.zeroValue21
  t31 := Tryd.underlying62
  a31 := Tryd.isAgg62
  z31 := Tryd.sizeOf62
  v31 := Tryd.zeroValue62
  t46 := Tryd.underlying117
  a46 := Tryd.isAgg117
  z46 := Tryd.sizeOf117
  v46 := Tryd.zeroValue117
  t51 := Tryd.underlying137
  a51 := Tryd.isAgg137
  z51 := Tryd.sizeOf137
  v51 := Tryd.zeroValue137
  t105 := Tryd.underlying129
  a105 := Tryd.isAgg129
  z105 := Tryd.sizeOf129
  v105 := Tryd.zeroValue129
  t119 := Tryd.underlying151
  a119 := Tryd.isAgg151
  z119 := Tryd.sizeOf151
  t138 := Tryd.underlying153
  a138 := Tryd.isAgg153
  z138 := Tryd.sizeOf153
  v138 := Tryd.zeroValue153
  t139 := Tryd.underlying154
  a139 := Tryd.isAgg154
  z139 := Tryd.sizeOf154
  v139 := Tryd.zeroValue154
  t146 := Tryd.underlying138
  a146 := Tryd.isAgg138
  z146 := Tryd.sizeOf138
  v146 := Tryd.zeroValue138
  g1 := by kernel_rfl
  g3 := by kernel_rfl
  g4 := by kernel_rfl }
open Go.RowKit Go.Lib in
/-- strings.Split. (LAID: no walk: one application.) -/
theorem Tryd.strings_Split (s sep : ByteArray) (m : Int) (w : World) (hs : s.size < 4294967281) (hm : w.cell? ⟨1, 0, none⟩ = some (.int .i64 m)) (h1 : 1 ≤ sep.size) :
    Calls Tryd.prog 57 #[.string s, .string sep] w fun e w' =>
      e = .returned (.slice (some ⟨w.heap.size, 0, none⟩) (Lib.countB s sep + 1) (Lib.countB s sep + 1)) ∧ w' = w.alloc (.cells ((Lib.splitB sep 0 (Lib.countB s sep) s).map Value.string).toArray 9) := Any.strings_Split Tryd.lays146 (by kernel_rfl) s sep m w hs hm h1
end Go.Proofs

namespace Go.Proofs.Dev

-- 3 parameters, results [.t 6], 15 slots, modes [false, false, false]
@[simp] abbrev n_impl_in : Nat := 46

def c_impl_in : ACode := .seq (.reg [.o 6 .mv [.kb false]]) <| .seq (.reg [.m 7 0, .m 8 1, .o 9 (.bin .geq 0) [.t 7, .t 8], .m 10 9, .mg 11 0 10 true,
 .mg 12 2 10 true, .g 13 (.bin .leq 0) [.t 11, .t 12] 10 true, .o 14 .pick [.t 10, .t 13, .kb false], .m 6 14]) <| .ret

theorem k_impl_in : cFn Tryd.prog n_impl_in 15 [.t 6] c_impl_in := ⟨Tryd.f46, _, Tryd.func46, rfl, by kernel_rfl, by kernel_rfl, by kernel_rfl, by kernel_rfl⟩

-- 3 parameters, results [.t 6], 15 slots, modes [false, false, false]
@[simp] abbrev n_spec_l1In : Nat := 42

def c_spec_l1In : ACode := .seq (.reg [.o 6 .mv [.kb false]]) <| .seq (.reg [.m 7 0, .m 8 1, .o 9 (.bin .geq 0) [.t 7, .t 8], .m 10 9, .mg 11 0 10 true,
 .mg 12 2 10 true, .g 13 (.bin .leq 0) [.t 11, .t 12] 10 true, .o 14 .pick [.t 10, .t 13, .kb false], .m 6 14]) <| .ret

theorem k_spec_l1In : cFn Tryd.prog n_spec_l1In 15 [.t 6] c_spec_l1In := ⟨Tryd.f42, _, Tryd.func42, rfl, by kernel_rfl, by kernel_rfl, by kernel_rfl, by kernel_rfl⟩

-- 1 parameters, results [.t 2], 24 slots, modes [false]
@[simp] abbrev n_spec_l10Named : Nat := 41

def c_spec_l10Named : ACode := .seq (.reg [.o 1 .box [.t 0], .o 2 .mv [.kb false]]) <| .seq (.seq (.reg [.f 3 0 1, .l 4 3]) <|
 .block 0 ( .seq (.reg [.o 6 (.bin .eql 0) [.t 4, .k 0], .m 5 6]) <| .cond (.t 5) ( .seq (.reg [.o 2 .mv [.kb true]]) <|
 .ret) ( .seq (.seq (.reg [.o 8 (.bin .eql 0) [.t 4, .k 1], .m 7 8]) <| .cond (.t 7) ( .skip) ( .reg [.o 9 (.bin .eql 0) [.t 4, .k 2], .m 7 9])) <|
 .cond (.t 7) ( .seq (.reg [.f 10 2 1, .l 11 10, .o 12 (.bin .eql 0) [.t 11, .k 0], .m 2 12]) <| .ret) ( .seq (.seq (.reg [.o 14 (.bin .eql 0) [.t 4, .k 3],
 .m 13 14]) <| .cond (.t 13) ( .skip) ( .reg [.o 15 (.bin .eql 0) [.t 4, .k 4], .m 13 15])) <| .cond (.t 13) ( .seq (.reg [.f 16 2 1, .l 17 16,
 .o 18 (.bin .eql 0) [.t 17, .k 0], .m 19 18, .fg 20 1 1 19 true, .lg 21 20 19 true, .g 22 (.bin .eql 0) [.t 21, .k 0] 19 true, .o 23 .pick [.t 19, .t 22,
 .kb false], .m 2 23]) <| .ret) ( .skip))))) <| .seq (.reg [.o 2 .mv [.kb false]]) <| .ret

theorem k_spec_l10Named : cFn Tryd.prog n_spec_l10Named 24 [.t 2] c_spec_l10Named := ⟨Tryd.f41, _, Tryd.func41, rfl, by kernel_rfl, by kernel_rfl, by kernel_rfl, by kernel_rfl⟩

-- 1 parameters, results [.t 2], 24 slots, modes [false]
@[simp] abbrev n_impl_Deed_needs : Nat := 45

def c_impl_Deed_needs : ACode := .seq (.reg [.o 1 .box [.t 0], .o 2 .mv [.kb false]]) <| .seq (.seq (.reg [.f 3 0 1, .l 4 3]) <|
 .block 0 ( .seq (.reg [.o 6 (.bin .eql 0) [.t 4, .k 0], .m 5 6]) <| .cond (.t 5) ( .seq (.reg [.o 2 .mv [.kb true]]) <|
 .ret) ( .seq (.seq (.reg [.o 8 (.bin .eql 0) [.t 4, .k 1], .m 7 8]) <| .cond (.t 7) ( .skip) ( .reg [.o 9 (.bin .eql 0) [.t 4, .k 2], .m 7 9])) <|
 .cond (.t 7) ( .seq (.reg [.f 10 2 1, .l 11 10, .o 12 (.bin .eql 0) [.t 11, .k 0], .m 2 12]) <| .ret) ( .seq (.seq (.reg [.o 14 (.bin .eql 0) [.t 4, .k 3],
 .m 13 14]) <| .cond (.t 13) ( .skip) ( .reg [.o 15 (.bin .eql 0) [.t 4, .k 4], .m 13 15])) <| .cond (.t 13) ( .seq (.reg [.f 16 1 1, .l 17 16,
 .o 18 (.bin .eql 0) [.t 17, .k 0], .m 19 18, .fg 20 2 1 19 true, .lg 21 20 19 true, .g 22 (.bin .eql 0) [.t 21, .k 0] 19 true, .o 23 .pick [.t 19, .t 22,
 .kb false], .m 2 23]) <| .ret) ( .skip))))) <| .seq (.reg [.o 2 .mv [.kb false]]) <| .ret

theorem k_impl_Deed_needs : cFn Tryd.prog n_impl_Deed_needs 24 [.t 2] c_impl_Deed_needs := ⟨Tryd.f45, _, Tryd.func45, rfl, by kernel_rfl, by kernel_rfl, by kernel_rfl, by kernel_rfl⟩

-- 1 parameters, results [.t 2], 34 slots, modes [false]
@[simp] abbrev n_spec_l1Number : Nat := 43

abbrev c_spec_l1Number_p0 : Plan := .take (.o 33 (.bin .add 1) [.t 26, .t 32]) <| .take (.m 2 33) <| .done
def c_spec_l1Number : ACode := .seq (.reg [.o 2 .mv [.c (.v (.string ⟨#[]⟩))]]) <| .seq (.seq (.reg [.m 3 0, .o 4 (.bin .lss 0) [.t 3, .k 0], .m 5 4,
 .mg 6 0 5 true, .mg 7 0 5 true, .g 8 (.un .neg) [.t 7] 5 true, .g 9 (.bin .eql 0) [.t 6, .t 8] 5 true, .o 10 .pick [.t 5, .t 9, .kb false]]) <|
 .cond (.t 10) ( .seq (.reg [.o 2 .mv [.c (.v (.string ⟨#[45, 57, 50, 50, 51, 51, 55, 50, 48, 51, 54, 56, 53, 52, 55, 55, 53, 56, 48, 56]⟩))]]) <|
 .ret) ( .skip)) <| .seq (.seq (.reg [.m 11 0, .o 12 (.bin .lss 0) [.t 11, .k 0]]) <| .cond (.t 12) ( .seq (.reg [.m 13 0, .o 14 (.un .neg) [.t 13],
 .o 15 (.call 43 []) [.t 14], .o 16 (.bin .add 1) [.c (.v (.string ⟨#[45]⟩)), .t 15], .m 2 16]) <| .ret) ( .skip)) <| .seq (.seq (.reg [.m 17 0,
 .o 18 (.bin .lss 0) [.t 17, .k 10]]) <| .cond (.t 18) ( .seq (.reg [.m 19 0, .o 20 (.bin .add 0) [.k 48, .t 19], .o 21 (.conv .u8) [.t 20],
 .o 22 (.bsl 1) [.t 21], .o 23 .str [.t 22], .m 2 23]) <| .ret) ( .skip)) <| .seq (.draw ( .take (.m 24 0) <| .take (.o 25 (.bin .quo 0) [.t 24, .k 10]) <|
 .take (.m 27 0) <| .take (.o 28 (.bin .rem 0) [.t 27, .k 10]) <| .take (.o 29 (.bin .add 0) [.k 48, .t 28]) <| .take (.o 30 (.conv .u8) [.t 29]) <|
 .alt (.o 26 (.call 43 []) [.t 25]) ( .al (.o 31 (.bsl 1) [.t 30]) ( .al (.o 32 .str [.t 31]) c_spec_l1Number_p0)) <| .al (.o 31 (.bsl 1) [.t 30]) ( .alt (.o 26 (.call 43 []) [.t 25]) ( .al (.o 32 .str [.t 31]) c_spec_l1Number_p0) <| .al (.o 32 .str [.t 31]) ( .al (.o 26 (.call 43 []) [.t 25]) c_spec_l1Number_p0)))) <| .ret

theorem k_spec_l1Number : cFn Tryd.prog n_spec_l1Number 34 [.t 2] c_spec_l1Number := ⟨Tryd.f43, _, Tryd.func43, rfl, by kernel_rfl, by kernel_rfl, by kernel_rfl, by kernel_rfl⟩

-- 1 parameters, results [.t 2], 10 slots, modes [false]
@[simp] abbrev n_spec_l10Letter : Nat := 44

def c_spec_l10Letter : ACode := .seq (.reg [.o 2 .mv [.c (.v (.string ⟨#[]⟩))]]) <| .seq (.seq (.reg [.m 3 0, .o 4 (.call 42 []) [.t 3, .k 1, .k 4],
 .o 5 (.un .not) [.t 4]]) <| .cond (.t 5) ( .seq (.reg [.o 2 .mv [.c (.v (.string ⟨#[]⟩))]]) <| .ret) ( .skip)) <|
 .seq (.reg [.o 6 (.bsl 1) [.c (.v (.string ⟨#[]⟩)), .c (.v (.string ⟨#[101]⟩)), .c (.v (.string ⟨#[110]⟩)), .c (.v (.string ⟨#[119]⟩)),
 .c (.v (.string ⟨#[115]⟩))], .m 7 0, .o 8 (.iadr 1) [.t 6, .t 7], .l 9 8, .m 2 9]) <| .ret

theorem k_spec_l10Letter : cFn Tryd.prog n_spec_l10Letter 10 [.t 2] c_spec_l10Letter := ⟨Tryd.f44, _, Tryd.func44, rfl, by kernel_rfl, by kernel_rfl, by kernel_rfl, by kernel_rfl⟩

-- 1 parameters, results [.t 2], 15 slots, modes [false]
@[simp] abbrev n_internalstrconv_small : Nat := 114

def c_internalstrconv_small : ACode := .seq (.reg [.o 2 .mv [.c (.v (.string ⟨#[]⟩))]]) <| .seq (.seq (.reg [.m 3 0, .o 4 (.bin .lss 0) [.t 3, .k 10]]) <|
 .cond (.t 4) ( .seq (.reg [.m 5 0, .m 6 0, .o 7 (.bin .add 0) [.t 6, .k 1], .o 8 (.sslice true true) [.c (.v (.string ⟨#[48, 49, 50, 51, 52, 53, 54, 55, 56, 57,
 97, 98, 99, 100, 101, 102, 103, 104, 105, 106, 107, 108, 109, 110, 111, 112, 113, 114, 115, 116, 117, 118, 119, 120, 121, 122]⟩)), .t 5, .t 7], .m 2 8]) <|
 .ret) ( .skip)) <| .seq (.reg [.m 9 0, .o 10 (.bin .mul 0) [.t 9, .k 2], .m 11 0, .o 12 (.bin .mul 0) [.t 11, .k 2], .o 13 (.bin .add 0) [.t 12, .k 2],
 .o 14 (.sslice true true) [.c (.v (.string ⟨#[48, 48, 48, 49, 48, 50, 48, 51, 48, 52, 48, 53, 48, 54, 48, 55, 48, 56, 48, 57, 49, 48, 49, 49, 49, 50, 49, 51,
 49, 52, 49, 53, 49, 54, 49, 55, 49, 56, 49, 57, 50, 48, 50, 49, 50, 50, 50, 51, 50, 52, 50, 53, 50, 54, 50, 55, 50, 56, 50, 57, 51, 48, 51, 49, 51, 50, 51, 51,
 51, 52, 51, 53, 51, 54, 51, 55, 51, 56, 51, 57, 52, 48, 52, 49, 52, 50, 52, 51, 52, 52, 52, 53, 52, 54, 52, 55, 52, 56, 52, 57, 53, 48, 53, 49, 53, 50, 53, 51,
 53, 52, 53, 53, 53, 54, 53, 55, 53, 56, 53, 57, 54, 48, 54, 49, 54, 50, 54, 51, 54, 52, 54, 53, 54, 54, 54, 55, 54, 56, 54, 57, 55, 48, 55, 49, 55, 50, 55, 51,
 55, 52, 55, 53, 55, 54, 55, 55, 55, 56, 55, 57, 56, 48, 56, 49, 56, 50, 56, 51, 56, 52, 56, 53, 56, 54, 56, 55, 56, 56, 56, 57, 57, 48, 57, 49, 57, 50, 57, 51,
 57, 52, 57, 53, 57, 54, 57, 55, 57, 56, 57, 57]⟩)), .t 10, .t 13], .m 2 14]) <| .ret

theorem k_internalstrconv_small : cFn Tryd.prog n_internalstrconv_small 15 [.t 2] c_internalstrconv_small := ⟨Tryd.f114, _, Tryd.func114, rfl, by kernel_rfl, by kernel_rfl, by kernel_rfl, by kernel_rfl⟩

-- 2 parameters, results [.t 4], 54 slots, modes [false, false]
@[simp] abbrev n_internalstrconv_FormatInt : Nat := 90

def c_internalstrconv_FormatInt : ACode := .seq (.reg [.o 4 .mv [.c (.v (.string ⟨#[]⟩))]]) <| .seq (.seq (.reg [.m 10 1, .o 11 (.bin .eql 0) [.t 10,
 .k 10]]) <| .cond (.t 11) ( .seq (.seq (.reg [.m 12 0, .o 13 (.bin .leq 0) [.k 0, .t 12], .m 14 13, .mg 15 0 14 true, .g 16 (.bin .lss 0) [.t 15,
 .k 100] 14 true, .o 17 .pick [.t 14, .t 16, .kb false]]) <| .cond (.t 17) ( .seq (.reg [.m 18 0, .o 19 (.call 114 []) [.t 18], .m 4 19]) <| .ret) ( .skip)) <|
 .seq (.reg [.o 5 (.alloc [.v (.int .u8 (0)), .v (.int .u8 (0)), .v (.int .u8 (0)), .v (.int .u8 (0)), .v (.int .u8 (0)), .v (.int .u8 (0)), .v (.int .u8 (0)),
 .v (.int .u8 (0)), .v (.int .u8 (0)), .v (.int .u8 (0)), .v (.int .u8 (0)), .v (.int .u8 (0)), .v (.int .u8 (0)), .v (.int .u8 (0)), .v (.int .u8 (0)),
 .v (.int .u8 (0)), .v (.int .u8 (0)), .v (.int .u8 (0)), .v (.int .u8 (0)), .v (.int .u8 (0)), .v (.int .u8 (0)), .v (.int .u8 (0)), .v (.int .u8 (0)),
 .v (.int .u8 (0))]) []]) <| .seq (.reg [.m 20 0, .o 21 (.conv .u64) [.t 20], .m 6 21]) <| .seq (.seq (.reg [.m 22 0, .o 23 (.bin .lss 0) [.t 22, .k 0]]) <|
 .cond (.t 23) ( .reg [.m 24 6, .o 25 (.un .neg) [.t 24], .m 6 25]) ( .skip)) <| .seq (.reg [.m 26 6, .o 27 (.call 115 []) [.t 26], .m 7 27]) <| .seq (.fail) <|
 .seq (.seq (.reg [.m 33 0, .o 34 (.bin .lss 0) [.t 33, .k 0]]) <| .cond (.t 34) ( .seq (.reg [.f 35 0 5, .s (.store 1) [.t 35, .c (.v (.int .u8 (45)))]]) <|
 .seq (.fail) <| .ret) ( .skip)) <| .seq (.fail) <| .ret) ( .skip)) <| .seq (.reg [.m 45 0, .o 46 (.conv .u64) [.t 45], .m 47 1, .m 48 0,
 .o 49 (.bin .lss 0) [.t 48, .k 0], .o 50 (.call 117 []) [.c (.os 1 []), .t 46, .t 47, .t 49, .kb false], .m 44 50, .e 51 0 44, .e 52 1 44, .m 8 51, .m 9 52]) <|
 .seq (.reg [.m 53 9, .m 4 53]) <| .ret

theorem k_internalstrconv_FormatInt : cFn Tryd.prog n_internalstrconv_FormatInt 54 [.t 4] c_internalstrconv_FormatInt := ⟨Tryd.f90, _, Tryd.func90, rfl, by kernel_rfl, by kernel_rfl, by kernel_rfl, by kernel_rfl⟩

-- 1 parameters, results [.t 2], 5 slots, modes [false]
@[simp] abbrev n_internalstrconv_Itoa : Nat := 74

def c_internalstrconv_Itoa : ACode := .seq (.reg [.o 2 .mv [.c (.v (.string ⟨#[]⟩))]]) <| .seq (.reg [.m 3 0, .o 4 (.call 90 []) [.t 3, .k 10], .m 2 4]) <|
 .ret

theorem k_internalstrconv_Itoa : cFn Tryd.prog n_internalstrconv_Itoa 5 [.t 2] c_internalstrconv_Itoa := ⟨Tryd.f74, _, Tryd.func74, rfl, by kernel_rfl, by kernel_rfl, by kernel_rfl, by kernel_rfl⟩

-- 1 parameters, results [.t 2], 5 slots, modes [false]
@[simp] abbrev n_strconv_Itoa : Nat := 47

def c_strconv_Itoa : ACode := .seq (.reg [.o 2 .mv [.c (.v (.string ⟨#[]⟩))]]) <| .seq (.reg [.m 3 0, .o 4 (.call 74 []) [.t 3], .m 2 4]) <| .ret

theorem k_strconv_Itoa : cFn Tryd.prog n_strconv_Itoa 5 [.t 2] c_strconv_Itoa := ⟨Tryd.f47, _, Tryd.func47, rfl, by kernel_rfl, by kernel_rfl, by kernel_rfl, by kernel_rfl⟩

-- 1 parameters, results [.t 2], 46 slots, modes [false]
@[simp] abbrev n_spec_DeedText : Nat := 10

def c_spec_DeedText : ACode := .seq (.reg [.o 1 .box [.t 0], .o 2 .mv [.c (.v (.string ⟨#[]⟩))]]) <| .seq (.seq (.reg [.la 4 3 1, .o 5 (.call 41 []) [.t 4],
 .o 6 (.un .not) [.t 5], .m 7 6, .fg 8 1 1 7 false, .lg 9 8 7 false, .g 10 (.call 42 []) [.t 9, .k 0, .k 99] 7 false, .g 11 (.un .not) [.t 10] 7 false,
 .o 12 .pick [.t 7, .kb true, .t 11]]) <| .cond (.t 12) ( .seq (.reg [.o 2 .mv [.c (.v (.string ⟨#[]⟩))]]) <| .ret) ( .skip)) <|
 .seq (.reg [.o 13 (.bsl 1) [.c (.v (.string ⟨#[108, 97, 121]⟩)), .c (.v (.string ⟨#[108, 105, 102, 116]⟩)), .c (.v (.string ⟨#[102, 108, 105, 112]⟩)),
 .c (.v (.string ⟨#[102, 111, 114, 99, 101]⟩)), .c (.v (.string ⟨#[98, 97, 99, 107]⟩))], .f 14 0 1, .l 15 14, .o 16 (.iadr 1) [.t 13, .t 15], .l 17 16,
 .m 3 17]) <| .seq (.seq (.reg [.f 18 0 1, .l 19 18, .o 20 (.bin .leq 0) [.t 19, .k 2]]) <| .cond (.t 20) ( .reg [.m 21 3, .o 22 (.bin .add 1) [.t 21,
 .c (.v (.string ⟨#[32]⟩))], .f 23 1 1, .l 24 23, .o 25 (.call 43 []) [.t 24], .o 26 (.bin .add 1) [.t 22, .t 25], .m 3 26]) ( .skip)) <|
 .seq (.seq (.reg [.f 27 0 1, .l 28 27, .o 29 (.bin .eql 0) [.t 28, .k 0], .m 30 29, .fg 31 2 1 30 true, .lg 32 31 30 true, .g 33 (.call 44 []) [.t 32] 30 true,
 .g 34 (.bin .eql 1) [.t 33, .c (.v (.string ⟨#[]⟩))] 30 true, .o 35 .pick [.t 30, .t 34, .kb false]]) <|
 .cond (.t 35) ( .seq (.reg [.o 2 .mv [.c (.v (.string ⟨#[]⟩))]]) <| .ret) ( .skip)) <| .seq (.seq (.reg [.f 36 0 1, .l 37 36, .o 38 (.bin .eql 0) [.t 37,
 .k 0]]) <| .cond (.t 38) ( .reg [.m 39 3, .o 40 (.bin .add 1) [.t 39, .c (.v (.string ⟨#[32]⟩))], .f 41 2 1, .l 42 41, .o 43 (.call 44 []) [.t 42],
 .o 44 (.bin .add 1) [.t 40, .t 43], .m 3 44]) ( .skip)) <| .seq (.reg [.m 45 3, .m 2 45]) <| .ret

theorem k_spec_DeedText : cFn Tryd.prog n_spec_DeedText 46 [.t 2] c_spec_DeedText := ⟨Tryd.f10, _, Tryd.func10, rfl, by kernel_rfl, by kernel_rfl, by kernel_rfl, by kernel_rfl⟩

-- 1 parameters, results [.t 2], 51 slots, modes [false]
@[simp] abbrev n_impl_DeedText : Nat := 12

def c_impl_DeedText : ACode := .seq (.reg [.o 1 .box [.t 0], .o 2 .mv [.c (.v (.string ⟨#[]⟩))]]) <| .seq (.seq (.reg [.la 4 3 1, .o 5 (.call 45 []) [.t 4],
 .o 6 (.un .not) [.t 5], .m 7 6, .fg 8 1 1 7 false, .lg 9 8 7 false, .g 10 (.call 46 []) [.t 9, .k 0, .k 99] 7 false, .g 11 (.un .not) [.t 10] 7 false,
 .o 12 .pick [.t 7, .kb true, .t 11], .m 13 12, .fg 14 0 1 13 false, .lg 15 14 13 false, .g 16 (.bin .eql 0) [.t 15, .k 0] 13 false, .mg 17 16 13 false,
 .fg 18 2 1 17 true, .lg 19 18 17 true, .g 20 (.call 46 []) [.t 19, .k 1, .k 4] 17 true, .g 21 (.un .not) [.t 20] 17 true, .g 22 .pick [.t 17, .t 21,
 .kb false] 13 false, .o 23 .pick [.t 13, .kb true, .t 22]]) <| .cond (.t 23) ( .seq (.reg [.o 2 .mv [.c (.v (.string ⟨#[]⟩))]]) <| .ret) ( .skip)) <|
 .seq (.reg [.o 24 (.load false 1) [.c (.vp 0 [.sl 0 1 [.v (.string ⟨#[108, 97, 121]⟩), .v (.string ⟨#[108, 105, 102, 116]⟩), .v (.string ⟨#[102, 108, 105,
 112]⟩), .v (.string ⟨#[102, 111, 114, 99, 101]⟩), .v (.string ⟨#[98, 97, 99, 107]⟩)]] 0)], .f 25 0 1, .l 26 25, .o 27 (.iadr 1) [.t 24, .t 26], .l 28 27,
 .m 3 28]) <| .seq (.seq (.reg [.f 29 0 1, .l 30 29, .o 31 (.bin .leq 0) [.t 30, .k 2]]) <| .cond (.t 31) ( .reg [.m 32 3, .f 33 1 1, .l 34 33,
 .o 35 (.call 47 []) [.t 34], .o 36 (.bin .add 1) [.c (.v (.string ⟨#[32]⟩)), .t 35], .o 37 (.bin .add 1) [.t 32, .t 36], .m 3 37]) ( .skip)) <|
 .seq (.seq (.reg [.f 38 0 1, .l 39 38, .o 40 (.bin .eql 0) [.t 39, .k 0]]) <| .cond (.t 40) ( .reg [.m 41 3, .f 42 2 1, .l 43 42, .f 44 2 1, .l 45 44,
 .o 46 (.bin .add 0) [.t 45, .k 1], .o 47 (.sslice true true) [.c (.v (.string ⟨#[35, 101, 110, 119, 115]⟩)), .t 43, .t 46],
 .o 48 (.bin .add 1) [.c (.v (.string ⟨#[32]⟩)), .t 47], .o 49 (.bin .add 1) [.t 41, .t 48], .m 3 49]) ( .skip)) <| .seq (.reg [.m 50 3, .m 2 50]) <| .ret

theorem k_impl_DeedText : cFn Tryd.prog n_impl_DeedText 51 [.t 2] c_impl_DeedText := ⟨Tryd.f12, _, Tryd.func12, rfl, by kernel_rfl, by kernel_rfl, by kernel_rfl, by kernel_rfl⟩

end Go.Proofs.Dev

namespace Go.Proofs.Dev

-- 2 parameters, results [.t 4], 35 slots, modes [false, false]
@[simp] abbrev n_spec_l1Cut : Nat := 50
def c_spec_l1Cut_L0 : ACode := .seq (.seq (.reg [.m 9 7, .m 10 0, .o 11 (.len true) [.t 10], .o 12 (.bin .lss 0) [.t 9, .t 11]]) <|
 .cond (.t 12) ( .skip) ( .exit 0)) <| .seq (.block 1 ( .seq (.reg [.m 15 0, .m 16 7, .o 17 .sidx [.t 15, .t 16], .m 18 1, .o 19 (.bin .eql 0) [.t 17,
 .t 18]]) <| .cond (.t 19) ( .seq (.reg [.m 20 5, .m 21 0, .m 22 6, .m 23 7, .o 24 (.sslice true true) [.t 21, .t 22, .t 23], .o 25 (.bsl 1) [.t 24],
 .o 26 (.app 1 16 true) [.t 20, .t 25], .m 5 26]) <| .reg [.m 27 7, .o 28 (.bin .add 0) [.t 27, .k 1], .m 6 28]) ( .skip))) <| .reg [.m 13 7,
 .o 14 (.bin .add 0) [.t 13, .k 1], .m 7 14]

def c_spec_l1Cut : ACode := .seq (.reg [.o 4 .mv [.c (.os 1 [])]]) <| .seq (.reg [.o 8 (.bsl 1) [], .m 5 8]) <| .seq (.reg [.o 6 .mv [.k 0]]) <|
 .seq (.seq (.reg [.o 7 .mv [.k 0]]) <| .block 0 ( .loop [(5, 1)] [0, 1, 5, 6, 7] c_spec_l1Cut_L0)) <| .seq (.reg [.m 29 5, .m 30 0, .m 31 6,
 .o 32 (.sslice true false) [.t 30, .t 31], .o 33 (.bsl 1) [.t 32], .o 34 (.app 1 16 true) [.t 29, .t 33], .m 4 34]) <| .ret

theorem k_spec_l1Cut : cFn Tryd.prog n_spec_l1Cut 35 [.t 4] c_spec_l1Cut := ⟨Tryd.f50, _, Tryd.func50, rfl, by kernel_rfl, by kernel_rfl, by kernel_rfl, by kernel_rfl⟩

-- 1 parameters, results [.t 2], 44 slots, modes [false]
@[simp] abbrev n_spec_l1Digits : Nat := 51
def c_spec_l1Digits_L0 : ACode := .seq (.seq (.reg [.m 19 4, .m 20 0, .o 21 (.len true) [.t 20], .o 22 (.bin .lss 0) [.t 19, .t 21]]) <|
 .cond (.t 22) ( .skip) ( .exit 0)) <| .seq (.block 1 ( .seq (.seq (.reg [.m 25 0, .m 26 4, .o 27 .sidx [.t 25, .t 26], .o 28 (.bin .lss 0) [.t 27,
 .c (.v (.int .u8 (48)))], .m 29 28, .mg 30 0 29 false, .mg 31 4 29 false, .g 32 .sidx [.t 30, .t 31] 29 false, .g 33 (.bin .gtr 0) [.t 32,
 .c (.v (.int .u8 (57)))] 29 false, .o 34 .pick [.t 29, .kb true, .t 33]]) <| .cond (.t 34) ( .seq (.reg [.o 2 .mv [.k (-1)]]) <| .ret) ( .skip)) <|
 .reg [.m 35 3, .o 36 (.bin .mul 0) [.k 10, .t 35], .m 37 0, .m 38 4, .o 39 .sidx [.t 37, .t 38], .o 40 (.bin .sub 0) [.t 39, .c (.v (.int .u8 (48)))],
 .o 41 (.conv .i64) [.t 40], .o 42 (.bin .add 0) [.t 36, .t 41], .m 3 42])) <| .reg [.m 23 4, .o 24 (.bin .add 0) [.t 23, .k 1], .m 4 24]

def c_spec_l1Digits : ACode := .seq (.reg [.o 2 .mv [.k 0]]) <| .seq (.seq (.reg [.m 5 0, .o 6 (.len true) [.t 5], .o 7 (.call 42 []) [.t 6, .k 1, .k 4],
 .o 8 (.un .not) [.t 7], .m 9 8, .mg 10 0 9 false, .g 11 (.len true) [.t 10] 9 false, .g 12 (.bin .gtr 0) [.t 11, .k 1] 9 false, .mg 13 12 9 false,
 .mg 14 0 13 true, .g 15 .sidx [.t 14, .k 0] 13 true, .g 16 (.bin .eql 0) [.t 15, .c (.v (.int .u8 (48)))] 13 true, .g 17 .pick [.t 13, .t 16,
 .kb false] 9 false, .o 18 .pick [.t 9, .kb true, .t 17]]) <| .cond (.t 18) ( .seq (.reg [.o 2 .mv [.k (-1)]]) <| .ret) ( .skip)) <|
 .seq (.reg [.o 3 .mv [.k 0]]) <| .seq (.seq (.reg [.o 4 .mv [.k 0]]) <| .block 0 ( .loop [] [0, 3, 4] c_spec_l1Digits_L0)) <| .seq (.reg [.m 43 3, .m 2 43]) <|
 .ret

theorem k_spec_l1Digits : cFn Tryd.prog n_spec_l1Digits 44 [.t 2] c_spec_l1Digits := ⟨Tryd.f51, _, Tryd.func51, rfl, by kernel_rfl, by kernel_rfl, by kernel_rfl, by kernel_rfl⟩

-- 2 parameters, results [.t 4], 19 slots, modes [false, false]
@[simp] abbrev n_slices_Index_string_string : Nat := 58
def c_slices_Index_string_string_L0 : ACode := .seq (.reg [.o 9 (.bin .lss 0) [.t 8, .t 7]]) <| .seq (.cond (.t 9) ( .skip) ( .exit 0)) <|
 .seq (.block 1 ( .seq (.reg [.m 10 8, .m 5 10]) <| .seq (.reg [.m 11 1, .m 12 0, .m 13 5, .o 14 (.iadr 1) [.t 12, .t 13], .l 15 14, .o 16 (.bin .eql 1) [.t 11,
 .t 15]]) <| .cond (.t 16) ( .seq (.reg [.m 17 5, .m 4 17]) <| .ret) ( .skip))) <| .reg [.o 18 (.bin .add 0) [.t 8, .k 1], .m 8 18]

def c_slices_Index_string_string : ACode := .seq (.reg [.o 4 .mv [.k 0]]) <| .seq (.seq (.reg [.m 6 0, .n 7 6, .o 8 .mv [.k 0]]) <| .block 0 ( .loop [(0,
 1)] [0, 1, 7, 8] c_slices_Index_string_string_L0)) <| .seq (.reg [.o 4 .mv [.k (-1)]]) <| .ret

theorem k_slices_Index_string_string : cFn Tryd.prog n_slices_Index_string_string 19 [.t 4] c_slices_Index_string_string := ⟨Tryd.f58, _, Tryd.func58, rfl, by kernel_rfl, by kernel_rfl, by kernel_rfl, by kernel_rfl⟩

-- 1 parameters, results [.c 2 true 3, .t 3], 44 slots, modes [false]
@[simp] abbrev n_impl_ReadDeed : Nat := 27
def c_impl_ReadDeed_T0 : ACode := .seq (.seq (.reg [.f 14 0 5, .l 15 14, .o 16 (.bin .lss 0) [.t 15, .k 0]]) <|
 .cond (.t 16) ( .seq (.reg [.o 17 (.build dz []) [], .s (.store 3) [.t 2, .t 17], .o 3 .mv [.kb false]]) <| .ret) ( .skip)) <| .seq (.seq (.reg [.m 18 4,
 .n 19 18, .o 20 (.bin .gtr 0) [.t 19, .k 1]]) <| .cond (.t 20) ( .reg [.m 22 4, .o 23 (.iadr 1) [.t 22, .k 1], .l 24 23, .o 25 (.call 59 []) [.t 24], .m 21 25,
 .e 26 0 21, .e 27 1 21, .f 28 1 5, .s (.store 1) [.t 28, .t 26]]) ( .skip)) <| .seq (.seq (.reg [.m 29 4, .n 30 29, .o 31 (.bin .gtr 0) [.t 30, .k 2]]) <|
 .cond (.t 31) ( .reg [.m 32 4, .o 33 (.iadr 1) [.t 32, .k 2], .l 34 33, .o 35 (.call 60 []) [.c (.v (.string ⟨#[35, 101, 110, 119, 115]⟩)), .t 34],
 .o 36 (.mnx false) [.k 0, .t 35], .f 37 2 5, .s (.store 1) [.t 37, .t 36]]) ( .skip)) <| .seq (.seq (.reg [.la 38 3 5, .o 39 (.call 12 []) [.t 38], .m 40 0,
 .o 41 (.bin .neq 1) [.t 39, .t 40]]) <| .cond (.t 41) ( .seq (.reg [.o 42 (.build dz []) [], .s (.store 3) [.t 2, .t 42], .o 3 .mv [.kb false]]) <|
 .ret) ( .skip)) <| .seq (.reg [.la 43 3 5, .s (.store 3) [.t 2, .t 43], .o 3 .mv [.kb true]]) <| .ret

abbrev c_impl_ReadDeed_p0 : Plan := .al (.o 12 (.call 58 []) [.t 8, .t 11]) ( .take (.o 13 (.build dz [(0, 1)]) [.t 12]) <| .al (.s (.store 3) [.t 5, .t 13]) ( .done))
abbrev c_impl_ReadDeed_p1 : Plan := .al (.o 8 (.load false 1) [.c (.vp 0 [.sl 0 1 [.v (.string ⟨#[108, 97, 121]⟩), .v (.string ⟨#[108, 105, 102, 116]⟩), .v (.string ⟨#[102, 108, 105, 112]⟩), .v (.string ⟨#[102, 111, 114, 99, 101]⟩), .v (.string ⟨#[98, 97, 99, 107]⟩)]] 0)]) c_impl_ReadDeed_p0
abbrev c_impl_ReadDeed_p2 : Plan := .alt (.o 12 (.call 58 []) [.t 8, .t 11]) ( .take (.o 13 (.build dz [(0, 1)]) [.t 12]) <| .al (.o 5 (.alloc dz) []) ( .al (.s (.store 3) [.t 5, .t 13]) ( .done))) <| .al (.o 5 (.alloc dz) []) c_impl_ReadDeed_p0
def c_impl_ReadDeed : ACode := .seq (.reg [.o 2 (.alloc dz) [], .o 3 .mv [.kb false]]) <| .seq (.reg [.m 6 0, .o 7 (.call 57 []) [.t 6,
 .c (.v (.string ⟨#[32]⟩))], .m 4 7]) <| .seq (.draw ( .take (.m 9 4) <| .take (.o 10 (.iadr 1) [.t 9, .k 0]) <|
 .alt (.o 8 (.load false 1) [.c (.vp 0 [.sl 0 1 [.v (.string ⟨#[108, 97, 121]⟩), .v (.string ⟨#[108, 105, 102, 116]⟩), .v (.string ⟨#[102, 108, 105, 112]⟩),
 .v (.string ⟨#[102, 111, 114, 99, 101]⟩), .v (.string ⟨#[98, 97, 99, 107]⟩)]] 0)]) ( .alt (.l 11 10) c_impl_ReadDeed_p2 <| .al (.o 5 (.alloc dz) []) ( .al (.l 11 10) c_impl_ReadDeed_p0)) <| .alt (.l 11 10) ( .alt (.o 8 (.load false 1) [.c (.vp 0 [.sl 0 1 [.v (.string ⟨#[108, 97, 121]⟩),
 .v (.string ⟨#[108, 105, 102, 116]⟩), .v (.string ⟨#[102, 108, 105, 112]⟩), .v (.string ⟨#[102, 111, 114, 99, 101]⟩), .v (.string ⟨#[98, 97, 99,
 107]⟩)]] 0)]) c_impl_ReadDeed_p2 <| .al (.o 5 (.alloc dz) []) c_impl_ReadDeed_p1) <|
 .al (.o 5 (.alloc dz) []) ( .alt (.o 8 (.load false 1) [.c (.vp 0 [.sl 0 1 [.v (.string ⟨#[108, 97, 121]⟩), .v (.string ⟨#[108, 105, 102, 116]⟩),
 .v (.string ⟨#[102, 108, 105, 112]⟩), .v (.string ⟨#[102, 111, 114, 99, 101]⟩), .v (.string ⟨#[98, 97, 99,
 107]⟩)]] 0)]) ( .al (.l 11 10) c_impl_ReadDeed_p0) <| .al (.l 11 10) c_impl_ReadDeed_p1))) <| .gc [] [0, 2, 4, 5] c_impl_ReadDeed_T0

theorem k_impl_ReadDeed : cFn Tryd.prog n_impl_ReadDeed 44 [.c 2 true 3, .t 3] c_impl_ReadDeed := ⟨Tryd.f27, _, Tryd.func27, rfl, by kernel_rfl, by kernel_rfl, by kernel_rfl, by kernel_rfl⟩

-- 1 parameters, results [.c 2 true 3, .t 3], 60 slots, modes [false]
@[simp] abbrev n_spec_ReadDeed : Nat := 26
abbrev c_spec_ReadDeed_L0_p0 : Plan := .take (.o 22 (.bin .eql 1) [.t 17, .t 21]) <| .done
def c_spec_ReadDeed_L0 : ACode := .seq (.seq (.reg [.m 11 6, .o 12 (.bin .leq 0) [.t 11, .k 4]]) <| .cond (.t 12) ( .skip) ( .exit 0)) <|
 .seq (.block 1 ( .seq (.draw ( .take (.m 15 4) <| .take (.o 16 (.iadr 1) [.t 15, .k 0]) <| .take (.m 19 6) <|
 .alt (.l 17 16) ( .al (.o 18 (.bsl 1) [.c (.v (.string ⟨#[108, 97, 121]⟩)), .c (.v (.string ⟨#[108, 105, 102, 116]⟩)), .c (.v (.string ⟨#[102, 108, 105,
 112]⟩)), .c (.v (.string ⟨#[102, 111, 114, 99, 101]⟩)), .c (.v (.string ⟨#[98, 97, 99, 107]⟩))]) ( .take (.o 20 (.iadr 1) [.t 18, .t 19]) <|
 .al (.l 21 20) c_spec_ReadDeed_L0_p0)) <| .al (.o 18 (.bsl 1) [.c (.v (.string ⟨#[108, 97, 121]⟩)), .c (.v (.string ⟨#[108,
 105, 102, 116]⟩)), .c (.v (.string ⟨#[102, 108, 105, 112]⟩)), .c (.v (.string ⟨#[102, 111, 114, 99, 101]⟩)), .c (.v (.string ⟨#[98, 97, 99,
 107]⟩))]) ( .take (.o 20 (.iadr 1) [.t 18, .t 19]) <| .alt (.l 17 16) ( .al (.l 21 20) c_spec_ReadDeed_L0_p0) <|
 .al (.l 21 20) ( .al (.l 17 16) c_spec_ReadDeed_L0_p0)))) <| .cond (.t 22) ( .reg [.m 23 6, .f 24 0 5, .s (.store 1) [.t 24,
 .t 23]]) ( .skip))) <| .reg [.m 13 6, .o 14 (.bin .add 0) [.t 13, .k 1], .m 6 14]

def c_spec_ReadDeed_L1 : ACode := .seq (.seq (.reg [.m 33 7, .o 34 (.bin .leq 0) [.t 33, .k 4], .m 35 34, .mg 36 4 35 true, .g 37 (.len false) [.t 36] 35 true,
 .g 38 (.bin .gtr 0) [.t 37, .k 2] 35 true, .o 39 .pick [.t 35, .t 38, .kb false]]) <| .cond (.t 39) ( .skip) ( .exit 2)) <|
 .seq (.block 3 ( .seq (.draw ( .take (.m 42 4) <| .take (.o 43 (.iadr 1) [.t 42, .k 2]) <| .take (.m 45 7) <|
 .alt (.l 44 43) ( .al (.o 46 (.call 44 []) [.t 45]) ( .take (.o 47 (.bin .eql 1) [.t 44, .t 46]) <| .done)) <|
 .al (.o 46 (.call 44 []) [.t 45]) ( .al (.l 44 43) ( .take (.o 47 (.bin .eql 1) [.t 44, .t 46]) <| .done)))) <| .cond (.t 47) ( .reg [.m 48 7, .f 49 2 5,
 .s (.store 1) [.t 49, .t 48]]) ( .skip))) <| .reg [.m 40 7, .o 41 (.bin .add 0) [.t 40, .k 1], .m 7 41]

def c_spec_ReadDeed : ACode := .seq (.reg [.o 2 (.alloc dz) [], .o 3 .mv [.kb false]]) <| .seq (.reg [.m 8 0, .o 9 (.call 50 []) [.t 8,
 .c (.v (.int .u8 (32)))], .m 4 9]) <| .seq (.reg [.o 10 (.build dz [(0, 1)]) [.k (-1)], .o 5 (.alloc dz) [], .s (.store 3) [.t 5, .t 10]]) <|
 .seq (.seq (.reg [.o 6 .mv [.k 0]]) <| .block 0 ( .loop [(4, 1)] [0, 2, 4, 5, 6] c_spec_ReadDeed_L0)) <| .seq (.seq (.reg [.m 25 4, .n 26 25,
 .o 27 (.bin .gtr 0) [.t 26, .k 1]]) <| .cond (.t 27) ( .reg [.m 28 4, .o 29 (.iadr 1) [.t 28, .k 1], .l 30 29, .o 31 (.call 51 []) [.t 30], .f 32 1 5,
 .s (.store 1) [.t 32, .t 31]]) ( .skip)) <| .seq (.seq (.reg [.o 7 .mv [.k 1]]) <| .block 2 ( .loop [(4, 1)] [0, 2, 4, 5, 7] c_spec_ReadDeed_L1)) <|
 .seq (.seq (.reg [.m 50 0, .o 51 (.bin .eql 1) [.t 50, .c (.v (.string ⟨#[]⟩))], .m 52 51, .g 53 (.load true 3) [.t 5] 52 false,
 .g 54 (.call 10 []) [.t 53] 52 false, .mg 55 0 52 false, .g 56 (.bin .neq 1) [.t 54, .t 55] 52 false, .o 57 .pick [.t 52, .kb true, .t 56]]) <|
 .cond (.t 57) ( .seq (.reg [.o 58 (.build dz []) [], .s (.store 3) [.t 2, .t 58], .o 3 .mv [.kb false]]) <| .ret) ( .skip)) <| .seq (.reg [.la 59 3 5,
 .s (.store 3) [.t 2, .t 59], .o 3 .mv [.kb true]]) <| .ret

theorem k_spec_ReadDeed : cFn Tryd.prog n_spec_ReadDeed 60 [.c 2 true 3, .t 3] c_spec_ReadDeed := ⟨Tryd.f26, _, Tryd.func26, rfl, by kernel_rfl, by kernel_rfl, by kernel_rfl, by kernel_rfl⟩

-- 2 parameters, results [.t 4], 20 slots, modes [false, false]
@[simp] abbrev n_laws_eqDeed : Nat := 28

def c_laws_eqDeed : ACode := .seq (.reg [.o 2 .box [.t 0], .o 3 .box [.t 1], .o 4 .mv [.kb false]]) <| .seq (.seq (.reg [.f 5 0 2, .l 6 5, .f 7 0 3, .l 8 7,
 .o 9 (.bin .neq 0) [.t 6, .t 8]]) <| .cond (.t 9) ( .seq (.reg [.o 4 .mv [.kb false]]) <| .ret) ( .skip)) <| .seq (.seq (.reg [.f 10 1 2, .l 11 10, .f 12 1 3,
 .l 13 12, .o 14 (.bin .neq 0) [.t 11, .t 13]]) <| .cond (.t 14) ( .seq (.reg [.o 4 .mv [.kb false]]) <| .ret) ( .skip)) <| .seq (.seq (.reg [.f 15 2 2,
 .l 16 15, .f 17 2 3, .l 18 17, .o 19 (.bin .neq 0) [.t 16, .t 18]]) <| .cond (.t 19) ( .seq (.reg [.o 4 .mv [.kb false]]) <| .ret) ( .skip)) <|
 .seq (.reg [.o 4 .mv [.kb true]]) <| .ret

theorem k_laws_eqDeed : cFn Tryd.prog n_laws_eqDeed 20 [.t 4] c_laws_eqDeed := ⟨Tryd.f28, _, Tryd.func28, rfl, by kernel_rfl, by kernel_rfl, by kernel_rfl, by kernel_rfl⟩

-- 1 parameters, results [.t 2], 29 slots, modes [false]
@[simp] abbrev n_laws_FnExactReadDeed : Nat := 6

def c_laws_FnExactReadDeed : ACode := .seq (.reg [.o 2 .mv [.kb false]]) <| .seq (.seq (.reg [.m 7 0, .o 8 (.len true) [.t 7], .o 9 (.bin .gtr 0) [.t 8,
 .k 1048576]]) <| .cond (.t 9) ( .seq (.reg [.o 2 .mv [.kb true]]) <| .ret) ( .skip)) <| .seq (.reg [.m 11 0, .o 12 (.call 26 []) [.t 11], .m 10 12, .e 13 0 10,
 .e 14 1 10, .o 3 (.alloc dz) [], .s (.store 3) [.t 3, .t 13], .m 4 14]) <| .seq (.reg [.m 16 0, .o 17 (.call 27 []) [.t 16], .m 15 17, .e 18 0 15, .e 19 1 15,
 .o 5 (.alloc dz) [], .s (.store 3) [.t 5, .t 18], .m 6 19]) <| .seq (.seq (.reg [.la 20 3 5, .la 21 3 3, .o 22 (.call 28 []) [.t 20, .t 21],
 .o 23 (.un .not) [.t 22], .m 24 23, .mg 25 6 24 false, .mg 26 4 24 false, .g 27 (.bin .neq 2) [.t 25, .t 26] 24 false, .o 28 .pick [.t 24, .kb true, .t 27]]) <|
 .cond (.t 28) ( .seq (.reg [.o 2 .mv [.kb false]]) <| .ret) ( .skip)) <| .seq (.reg [.o 2 .mv [.kb true]]) <| .ret

theorem k_laws_FnExactReadDeed : cFn Tryd.prog n_laws_FnExactReadDeed 29 [.t 2] c_laws_FnExactReadDeed := ⟨Tryd.f6, _, Tryd.func6, rfl, by kernel_rfl, by kernel_rfl, by kernel_rfl, by kernel_rfl⟩

end Go.Proofs.Dev

namespace Go.Proofs.Dev
set_option linter.unusedSimpArgs false
set_option maxRecDepth 100000

@[simp] def mdT (_ : Nat) : List Bool := []
def deedA (d : Int × Int × Int) : AV := .agg [.v (.int .i64 d.1), .v (.int .i64 d.2.1), .v (.int .i64 d.2.2)]

theorem s_impl_in (x lo hi : Int) : SoundAt Tryd.prog n_impl_in [.v (.int .i64 x), .v (.int .i64 lo), .v (.int .i64 hi)] (.v (.bool (decide (lo ≤ x ∧ x ≤ hi)))) [.bot, .bot, .bot] := by
  refine fn_ok (md := mdT) (ms := [false, false, false]) k_impl_in (by simp) ?_
  simp [c_impl_in]
  constructor
  · intro h; simp [h]
  · intro h; omega

theorem s_spec_l1In (x lo hi : Int) : SoundAt Tryd.prog n_spec_l1In [.v (.int .i64 x), .v (.int .i64 lo), .v (.int .i64 hi)] (.v (.bool (decide (lo ≤ x ∧ x ≤ hi)))) [.bot, .bot, .bot] := by
  refine fn_ok (md := mdT) (ms := [false, false, false]) k_spec_l1In (by simp) ?_
  simp [c_spec_l1In]
  constructor
  · intro h; simp [h]
  · intro h; omega

theorem s_impl_Deed_needs (d : Int × Int × Int) : SoundAt Tryd.prog n_impl_Deed_needs [deedA d] (.v (.bool (needD d))) [.bot] := by
  obtain ⟨k, s, w⟩ := d
  refine fn_ok (md := mdT) (ms := [false]) k_impl_Deed_needs (by simp [deedA]) ?_
  by_cases h0 : k = 0 <;> by_cases h1 : k = 1 <;> by_cases h2 : k = 2 <;> by_cases h3 : k = 3 <;> by_cases h4 : k = 4 <;> by_cases hs : s = 0 <;> by_cases hw : w = 0 <;> first | (exfalso; omega) | (simp [c_impl_Deed_needs, deedA, needD, h0, h1, h2, h3, h4, hs, hw])

theorem s_spec_l10Named (d : Int × Int × Int) : SoundAt Tryd.prog n_spec_l10Named [deedA d] (.v (.bool (needD d))) [.bot] := by
  obtain ⟨k, s, w⟩ := d
  refine fn_ok (md := mdT) (ms := [false]) k_spec_l10Named (by simp [deedA]) ?_
  by_cases h0 : k = 0 <;> by_cases h1 : k = 1 <;> by_cases h2 : k = 2 <;> by_cases h3 : k = 3 <;> by_cases h4 : k = 4 <;> by_cases hs : s = 0 <;> by_cases hw : w = 0 <;> first | (exfalso; omega) | (simp [c_spec_l10Named, deedA, needD, h0, h1, h2, h3, h4, hs, hw])

theorem numT_lo {n : Int} (h : n < 10) : numT n = [b8 (48 + n)] := by simp [numT, h]
theorem numT_hi {n : Int} (h : ¬ n < 10) : numT n = [b8 (48 + n / 10), b8 (48 + n % 10)] := by simp [numT, h]

theorem num_lo (n : Int) (h0 : 0 ≤ n) (h1 : n < 10) : SoundAt Tryd.prog n_spec_l1Number [.v (.int .i64 n)] (.v (tx (numT n))) [.bot] := by
  refine fn_ok (md := mdT) (ms := [false]) k_spec_l1Number (by simp) ?_
  have hn : ¬ n < 0 := by omega
  simp [c_spec_l1Number, hn, h1, numT_lo h1, b8, astr, u8L]
  omega

theorem s_spec_l1Number (n : Int) (h0 : 0 ≤ n) (h1 : n < 100) : SoundAt Tryd.prog n_spec_l1Number [.v (.int .i64 n)] (.v (tx (numT n))) [.bot] := by
  by_cases h : n < 10
  · exact num_lo n h0 h
  refine fn_ok (md := mdT) (ms := [false]) k_spec_l1Number (by simp) ?_
  have hn : ¬ n < 0 := by omega
  have c := num_lo (n / 10) (by omega) (by omega)
  rw [numT_lo (by omega)] at c
  simp [c_spec_l1Number, hn, h, astr, u8L]
  (repeat' first | omega | apply And.intro) <;>
  · refine call_on c ?_
    simp [h, numT_hi h, b8, astr, u8L]
    try omega

abbrev digL : List UInt8 := [48, 49, 50, 51, 52, 53, 54, 55, 56, 57, 97, 98, 99, 100, 101, 102, 103, 104, 105, 106, 107, 108, 109, 110, 111, 112, 113, 114, 115, 116, 117, 118, 119, 120, 121, 122]
theorem small_lo : ∀ n : _root_.Fin 10, List.take (n.val + 1 - n.val) (List.drop n.val digL) = numT n.val := by decide +kernel
abbrev smalL : List UInt8 := [48, 48, 48, 49, 48, 50, 48, 51, 48, 52, 48, 53, 48, 54, 48, 55, 48, 56, 48, 57, 49, 48, 49, 49, 49, 50, 49, 51, 49, 52, 49, 53, 49, 54, 49, 55, 49, 56, 49, 57, 50, 48, 50, 49, 50, 50, 50, 51, 50, 52, 50, 53, 50, 54, 50, 55, 50, 56, 50, 57, 51, 48, 51, 49, 51, 50, 51, 51, 51, 52, 51, 53, 51, 54, 51, 55, 51, 56, 51, 57, 52, 48, 52, 49, 52, 50, 52, 51, 52, 52, 52, 53, 52, 54, 52, 55, 52, 56, 52, 57, 53, 48, 53, 49, 53, 50, 53, 51, 53, 52, 53, 53, 53, 54, 53, 55, 53, 56, 53, 57, 54, 48, 54, 49, 54, 50, 54, 51, 54, 52, 54, 53, 54, 54, 54, 55, 54, 56, 54, 57, 55, 48, 55, 49, 55, 50, 55, 51, 55, 52, 55, 53, 55, 54, 55, 55, 55, 56, 55, 57, 56, 48, 56, 49, 56, 50, 56, 51, 56, 52, 56, 53, 56, 54, 56, 55, 56, 56, 56, 57, 57, 48, 57, 49, 57, 50, 57, 51, 57, 52, 57, 53, 57, 54, 57, 55, 57, 56, 57, 57]
theorem small_hi : ∀ n : _root_.Fin 100, (if n.val < 10 then true else decide (List.take (n.val * 2 + 2 - n.val * 2) (List.drop (n.val * 2) smalL) = numT n.val)) = true := by decide +kernel

theorem s_small (n : Nat) (h1 : n < 100) : SoundAt Tryd.prog n_internalstrconv_small [.v (.int .i64 (n : Int))] (.v (tx (numT n))) [.bot] := by
  refine fn_ok (md := mdT) (ms := [false]) k_internalstrconv_small (by simp) ?_
  by_cases h : n < 10
  · have e : (n : Int) < 10 := by omega
    have t := small_lo ⟨n, h⟩
    have e1 : ((n : Int) + 1).toNat = n + 1 := by omega
    simp only at t
    rw [← t]
    have p1 : (0 : Int) ≤ (n : Int) + 1 := by omega
    have p2 : n + 1 ≤ 36 := by omega
    simp [c_internalstrconv_small, e, e1, p1, p2]
    omega
  · have e : ¬ (n : Int) < 10 := by omega
    have t := small_hi ⟨n, h1⟩
    rw [if_neg h] at t
    have t' := of_decide_eq_true t
    have e1 : ((n : Int) * 2).toNat = n * 2 := by omega
    have e2 : ((n : Int) * 2 + 2).toNat = n * 2 + 2 := by omega
    rw [← t']
    have p1 : (0 : Int) ≤ (n : Int) * 2 + 2 := by omega
    have p0 : (0 : Int) ≤ (n : Int) * 2 := by omega
    have p2 : n * 2 + 2 ≤ 200 := by omega
    simp [c_internalstrconv_small, e, e1, e2, p0, p1, p2]
    omega

theorem s_FormatInt (n : Nat) (h1 : n < 100) : SoundAt Tryd.prog n_internalstrconv_FormatInt [.v (.int .i64 (n : Int)), .v (.int .i64 10)] (.v (tx (numT n))) [.bot, .bot] := by
  refine fn_ok (md := mdT) (ms := [false, false]) k_internalstrconv_FormatInt (by simp) ?_
  have e : (n : Int) < 100 := by omega
  have e0 : (0 : Int) ≤ n := by omega
  simp [c_internalstrconv_FormatInt, e, e0]
  refine call_on (s_small n h1) ?_
  simp

theorem s_Itoa0 (n : Nat) (h1 : n < 100) : SoundAt Tryd.prog n_internalstrconv_Itoa [.v (.int .i64 (n : Int))] (.v (tx (numT n))) [.bot] := by
  refine fn_ok (md := mdT) (ms := [false]) k_internalstrconv_Itoa (by simp) ?_
  simp [c_internalstrconv_Itoa]
  refine call_on (s_FormatInt n h1) ?_
  simp

theorem s_strconv_Itoa (n : Int) (h0 : 0 ≤ n) (h1 : n < 100) : SoundAt Tryd.prog n_strconv_Itoa [.v (.int .i64 n)] (.v (tx (numT n))) [.bot] := by
  obtain ⟨k, rfl⟩ : ∃ k : Nat, n = k := ⟨n.toNat, by omega⟩
  refine fn_ok (md := mdT) (ms := [false]) k_strconv_Itoa (by simp) ?_
  simp [c_strconv_Itoa]
  refine call_on (s_Itoa0 k (by omega)) ?_
  simp

theorem s_spec_l10Letter (w : Int) : SoundAt Tryd.prog n_spec_l10Letter [.v (.int .i64 w)] (.v (tx (letT w))) [.bot] := by
  refine fn_ok (md := mdT) (ms := [false]) k_spec_l10Letter (by simp) ?_
  simp [c_spec_l10Letter]
  refine call_on (s_spec_l1In w 1 4) ?_
  by_cases h1 : w = 1
  · subst h1; simp [letT]
  by_cases h2 : w = 2
  · subst h2; simp [letT]
  by_cases h3 : w = 3
  · subst h3; simp [letT]
  by_cases h4 : w = 4
  · subst h4; simp [letT]
  have h : ¬ (1 ≤ w ∧ w ≤ 4) := by omega
  simp [letT, h1, h2, h3, h4, h]

end Go.Proofs.Dev

namespace Go.Proofs.Dev
set_option linter.unusedSimpArgs false
set_option maxRecDepth 100000

theorem dText_no {d : Int × Int × Int} (h : txtOk d = false) : dText d = [] := by simp [dText, h]
theorem need_kind {k s w : Int} (h : needD (k, s, w) = true) : k = 0 ∨ k = 1 ∨ k = 2 ∨ k = 3 ∨ k = 4 := by
  simp only [needD] at h
  split at h
  · left; assumption
  · split at h
    · rename_i h2; rcases h2 with h2 | h2 <;> simp [h2]
    · split at h
      · rename_i h2; rcases h2 with h2 | h2 <;> simp [h2]
      · cases h
theorem numT_le (n : Int) : (numT n).length ≤ 2 := by unfold numT; split <;> simp
theorem letT_le (n : Int) : (letT n).length ≤ 1 := by unfold letT; (repeat' split) <;> simp
theorem letT_nil (w : Int) : letT w = [] ↔ ¬ (1 ≤ w ∧ w ≤ 4) := by
  unfold letT
  by_cases h1 : w = 1
  · simp [h1]
  by_cases h2 : w = 2
  · simp [h2]
  by_cases h3 : w = 3
  · simp [h3]
  by_cases h4 : w = 4
  · simp [h4]
  simp [h1, h2, h3, h4]
  omega

set_option maxHeartbeats 4000000 in
theorem s_spec_DeedText (d : Int × Int × Int) : SoundAt Tryd.prog n_spec_DeedText [deedA d] (.v (tx (dText d))) [.bot] := by
  obtain ⟨k, s, w⟩ := d
  have nd := s_spec_l10Named (k, s, w)
  simp only [deedA] at nd
  have li := s_spec_l1In s 0 99
  have le := s_spec_l10Letter w
  refine fn_ok (md := mdT) (ms := [false]) k_spec_DeedText (by simp [deedA]) ?_
  cases hn : needD (k, s, w) with
  | false =>
    rw [hn] at nd
    rw [dText_no (by simp [txtOk, hn])]
    simp [c_spec_DeedText, deedA]
    refine call_on nd ?_
    simp
  | true =>
  rw [hn] at nd
  by_cases hs : 0 ≤ s ∧ s ≤ 99
  case neg =>
    rw [dText_no (by simp [txtOk, hs])]
    simp [c_spec_DeedText, deedA]
    refine call_on nd ?_
    simp
    refine call_on li ?_
    simp [hs]
  have nu := s_spec_l1Number s hs.1 (by omega)
  have n2 := numT_le s
  have l1 := letT_le w
  have lk := need_kind hn
  simp [c_spec_DeedText, deedA]
  refine call_on nd ?_
  simp
  refine call_on li ?_
  simp [hs]
  rcases lk with rfl | rfl | rfl | rfl | rfl
  · simp
    refine call_on nu ?_
    simp
    refine ⟨by omega, ?_⟩
    refine call_on le ?_
    by_cases hw : 1 ≤ w ∧ w ≤ 4
    · have hne : letT w ≠ [] := by rw [Ne, letT_nil]; simpa using hw
      have e : dText (0, s, w) = wordK 0 ++ (32 :: numT s ++ 32 :: letT w) := by simp [dText, txtOk, hn, hs, hw]
      rw [e]
      simp [hne]
      refine ⟨by omega, ?_⟩
      refine call_on le ?_
      simp [wordK]
      omega
    · have hne : letT w = [] := by rw [letT_nil]; exact hw
      rw [dText_no (by simp [txtOk, hw])]
      simp [hne]
  all_goals
    have e := hn
    simp [needD] at e
  · have e' : dText (1, s, w) = wordK 1 ++ 32 :: numT s := by simp [dText, txtOk, hn, hs]
    rw [e']
    simp
    refine call_on nu ?_
    simp [wordK]
    omega
  · have e' : dText (2, s, w) = wordK 2 ++ 32 :: numT s := by simp [dText, txtOk, hn, hs]
    rw [e']
    simp
    refine call_on nu ?_
    simp [wordK]
    omega
  · have e' : dText (3, s, w) = wordK 3 := by simp [dText, txtOk, hn, hs]
    rw [e']
    simp [wordK]
  · have e' : dText (4, s, w) = wordK 4 := by simp [dText, txtOk, hn, hs]
    rw [e']
    simp [wordK]

set_option maxHeartbeats 4000000 in
theorem s_impl_DeedText (d : Int × Int × Int) : SoundAt Tryd.prog n_impl_DeedText [deedA d] (.v (tx (dText d))) [.bot] := by
  obtain ⟨k, s, w⟩ := d
  have nd := s_impl_Deed_needs (k, s, w)
  simp only [deedA] at nd
  have li := s_impl_in s 0 99
  have lw := s_impl_in w 1 4
  refine fn_ok (md := mdT) (ms := [false]) k_impl_DeedText (by simp [deedA]) ?_
  cases hn : needD (k, s, w) with
  | false =>
    rw [hn] at nd
    rw [dText_no (by simp [txtOk, hn])]
    simp [c_impl_DeedText, deedA]
    refine call_on nd ?_
    simp
  | true =>
  rw [hn] at nd
  by_cases hs : 0 ≤ s ∧ s ≤ 99
  case neg =>
    rw [dText_no (by simp [txtOk, hs])]
    simp [c_impl_DeedText, deedA]
    refine call_on nd ?_
    simp
    refine call_on li ?_
    simp [hs]
  have nu := s_strconv_Itoa s hs.1 (by omega)
  have n2 := numT_le s
  have lk := need_kind hn
  simp [c_impl_DeedText, deedA]
  refine call_on nd ?_
  simp
  refine call_on li ?_
  simp [hs]
  rcases lk with rfl | rfl | rfl | rfl | rfl
  · simp [aiadr]
    refine call_on lw ?_
    by_cases hw : 1 ≤ w ∧ w ≤ 4
    · have e : dText (0, s, w) = wordK 0 ++ (32 :: numT s ++ 32 :: letT w) := by simp [dText, txtOk, hn, hs, hw]
      rw [e]
      have h4 : w = 1 ∨ w = 2 ∨ w = 3 ∨ w = 4 := by omega
      simp [hw, aiadr]
      refine call_on nu ?_
      rcases h4 with rfl | rfl | rfl | rfl <;>
      · simp [wordK, letT]
        omega
    · rw [dText_no (by simp [txtOk, hw])]
      simp [hw]
  all_goals
    have e := hn
    simp [needD] at e
  · have e' : dText (1, s, w) = wordK 1 ++ 32 :: numT s := by simp [dText, txtOk, hn, hs]
    rw [e']
    simp [aiadr]
    refine call_on nu ?_
    simp [wordK]
    omega
  · have e' : dText (2, s, w) = wordK 2 ++ 32 :: numT s := by simp [dText, txtOk, hn, hs]
    rw [e']
    simp [aiadr]
    refine call_on nu ?_
    simp [wordK]
    omega
  · have e' : dText (3, s, w) = wordK 3 := by simp [dText, txtOk, hn, hs]
    rw [e']
    simp [wordK, aiadr]
  · have e' : dText (4, s, w) = wordK 4 := by simp [dText, txtOk, hn, hs]
    rw [e']
    simp [wordK, aiadr]

end Go.Proofs.Dev
