/- For every book and list of deeds the law FnExactBookRun answers true, and the arguments read as before. -/
import Derived.Test.YtakaenhgbkbegaaGreatAW
import Derived.Test.YtakaenhgbkbegaaGreatAX

set_option linter.unusedSimpArgs false
set_option linter.unusedVariables false

namespace Go.Proofs.YtakaenhgbkbegaaGreat
open Go.ChangeShapes Go.WideShapes Go.ChangeAt Go.RowKit Go.Proofs.Dev

def dsV : List (Int × Int × Int) → List Value
  | [] => []
  | d :: xs => .int .i64 d.1 :: .int .i64 d.2.1 :: .int .i64 d.2.2 :: dsV xs

theorem flatE_ds_cons (d : Int × Int × Int) (xs : List (Int × Int × Int)) : flatE (dsA (d :: xs)) = .v (.int .i64 d.1) :: .v (.int .i64 d.2.1) :: .v (.int .i64 d.2.2) :: flatE (dsA xs) := rfl

theorem RL_dsV (C : Ctx) : ∀ xs : List (Int × Int × Int), RL C (flatE (dsA xs)) [] (dsV xs)
  | [] => by show RL C [] [] []; rw [RL]; exact ⟨rfl, rfl⟩
  | d :: xs => by
    rw [flatE_ds_cons, dsV]
    rw [RL]; refine ⟨[], [], _, _, rfl, rfl, by rw [R]; exact ⟨rfl, rfl⟩, ?_⟩
    rw [RL]; refine ⟨[], [], _, _, rfl, rfl, by rw [R]; exact ⟨rfl, rfl⟩, ?_⟩
    rw [RL]; exact ⟨[], [], _, _, rfl, rfl, by rw [R]; exact ⟨rfl, rfl⟩, RL_dsV C xs⟩

theorem sized_ds (xs : List (Int × Int × Int)) : Sized 3 (dsA xs) := by
  intro e he
  obtain ⟨d, _, rfl⟩ := List.mem_map.1 he
  rfl

theorem cells_dsV {w : World} {b : Nat} : ∀ (xs : List (Int × Int × Int)) (p : Nat), (∀ i (h : i < xs.length), w.cell? ⟨b, p + i * 3, none⟩ = some (.int .i64 xs[i].1) ∧ w.cell? ⟨b, p + i * 3 + 1, none⟩ = some (.int .i64 xs[i].2.1) ∧ w.cell? ⟨b, p + i * 3 + 2, none⟩ = some (.int .i64 xs[i].2.2)) → Cells w b p (dsV xs)
  | [], p, _ => by intro j u hj; simp [dsV] at hj
  | d :: xs, p, h => by
    intro j u hj
    obtain ⟨h0, h1, h2⟩ := h 0 (by simp)
    simp only [Nat.zero_mul, Nat.add_zero, List.getElem_cons_zero] at h0 h1 h2
    match j, hj with
    | 0, hj => simp only [dsV, List.getElem?_cons_zero, Option.some.injEq] at hj; subst hj; exact h0
    | 1, hj => simp only [dsV, List.getElem?_cons_succ, List.getElem?_cons_zero, Option.some.injEq] at hj; subst hj; exact h1
    | 2, hj => simp only [dsV, List.getElem?_cons_succ, List.getElem?_cons_zero, Option.some.injEq] at hj; subst hj; exact h2
    | j + 3, hj =>
      simp only [dsV, List.getElem?_cons_succ] at hj
      have := cells_dsV xs (p + 3) (fun i hi => by
        obtain ⟨a, b', c⟩ := h (i + 1) (by simp; omega)
        simp only [List.getElem_cons_succ] at a b' c
        rw [show p + (i + 1) * 3 = p + 3 + i * 3 by omega] at a b' c
        exact ⟨a, b', c⟩) j u hj
      rw [show p + (j + 3) = p + 3 + j by omega]
      exact this

theorem read_deeds {P : Program} {W : World} {H : Type} {enc : TypeId × Value → H} {t e : TypeId} {f0 f1 f2 : Field} {v : Value} {d : DataW H} {p : List MemPlace} {base : Nat} (ht : P.underlying t = some (.slice e)) (hs : P.underlying e = some (.struct #[f0, f1, f2])) (hC : P.cellsOf e = 3)
    (o0 : f0.offset = 0) (o1 : f1.offset = 1) (o2 : f2.offset = 2) (d0 : P.cellsOf f0.type = 1) (d1 : P.cellsOf f1.type = 1) (d2 : P.cellsOf f2.type = 1)
    (h0 : P.underlying f0.type = some (.int .i64)) (h1 : P.underlying f1.type = some (.int .i64)) (h2 : P.underlying f2.type = some (.int .i64))
    (hv : Value.okWide P W .any base t v) (h : DataW.Trod enc P W 0 (fun _ => true) true t v d p) :
    ∃ xs : List (Int × Int × Int), xs.length ≤ maxLen ∧ (∀ d ∈ xs, d.2.1 ≤ 9223372036854775807) ∧ R (cin W [] fun _ => False) (.sl 1 3 (dsA xs)) [] v := by
  obtain ⟨a0, len0, cap0, rfl⟩ := okWide_slice ht hv
  obtain ⟨fuel, hf0⟩ := h
  have hf : DataW.trod enc P W 0 (fun _ => true) true fuel t [.slice a0 len0 cap0] = some (d, p) := hf0
  rcases Go.Deep.open_slice ht hf with ⟨hcs, hx⟩ | ⟨a, len, cap, m, n, D, Pl, hcs, _, hl, hm, hmm, hx, hcell⟩
  · simp at hcs
    obtain ⟨rfl, rfl, rfl⟩ := hcs
    exact ⟨[], by simp, by simp, by rw [R]; exact ⟨rfl, none, 0, rfl, Nat.le_refl _, .inl rfl⟩⟩
  · simp at hcs
    obtain ⟨rfl, rfl, rfl⟩ := hcs
    simp only [if_true] at hmm
    have each : ∀ i, i < len0 → ∃ x : Int × Int × Int, x.2.1 ≤ 9223372036854775807 ∧ W.cell? (a.add (i * 3)) = some (.int .i64 x.1) ∧ W.cell? ((a.add (i * 3)).add 1) = some (.int .i64 x.2.1) ∧ W.cell? ((a.add (i * 3)).add 2) = some (.int .i64 x.2.2) := by
      intro i hi
      obtain ⟨cs', e1, e2⟩ := hcell i (by omega)
      rw [hC] at e1
      obtain ⟨_, e3, e4⟩ := World.cells?_some e1
      match cs', e3 with
      | [v0, v1, v2], _ =>
        obtain ⟨z0, z1, z2, k, hz, _, s0, s1, s2⟩ := Go.Deep.trod_struct3 hs e2
        have s0' : DataW.trod enc P W 0 (fun _ => true) true k f0.type [v0] = some z0 := by simpa [o0, d0] using s0
        have s1' : DataW.trod enc P W 0 (fun _ => true) true k f1.type [v1] = some z1 := by simpa [o1, d1] using s1
        have s2' : DataW.trod enc P W 0 (fun _ => true) true k f2.type [v2] = some z2 := by simpa [o2, d2] using s2
        obtain ⟨x0, hx0, _, w0⟩ := DataW.trod_int h0 s0'
        obtain ⟨x1, hx1, _, w1⟩ := DataW.trod_int h1 s1'
        obtain ⟨x2, hx2, _, w2⟩ := DataW.trod_int h2 s2'
        simp at hx0 hx1 hx2
        subst hx0 hx1 hx2
        refine ⟨(x0, x1, x2), ?_, ?_, ?_, ?_⟩
        · simp [Lit.wf] at w1
          exact w1.2
        · have := e4 0 (by omega)
          have ha0 : (a.add (i * 3)).add 0 = a.add (i * 3) := rfl
          rw [ha0] at this
          simpa using this
        · have := e4 1 (by omega); simpa using this
        · have := e4 2 (by omega); simpa using this
    obtain ⟨X, hX⟩ := Go.Deep.choose_lt each
    refine ⟨(List.range len0).map X, by simp; omega, ?_, ?_⟩
    · intro d hd
      obtain ⟨i, hi, rfl⟩ := List.mem_map.1 hd
      exact (hX i (by simpa using hi)).1
    rw [R]
    refine ⟨rfl, some a, cap0, by simp, by simpa using hl, ?_⟩
    by_cases hz : len0 = 0
    · left; subst hz; rfl
    right
    obtain ⟨_, g0, _, _⟩ := hX 0 (by omega)
    have ha0 : a.add (0 * 3) = a := by cases a; rfl
    rw [ha0] at g0
    have hsp := cell_spot g0
    refine ⟨a.block, a.off, dsV ((List.range len0).map X), by rw [← hsp], block_lt_of_cell g0, by simp [cin], ?_, sized_ds _, RL_dsV _ _⟩
    refine cells_dsV _ _ ?_
    intro i hi
    simp only [List.length_map, List.length_range] at hi
    obtain ⟨_, q0, q1, q2⟩ := hX i hi
    rw [hsp] at q0 q1 q2
    simp only [addr_add] at q0 q1 q2
    simp only [List.getElem_map, List.getElem_range]
    exact ⟨q0, q1, q2⟩


theorem rDeeds : Tryz.prog.readableRec 56 = true := by kernel_rfl
theorem fnExactBookRun_fact0 : (Rows.fnExactBookRunRow.wf (OpenSpec.ofChange Rows.fnExactBookRunSpec)) = true := by kernel_rfl
theorem fnExactBookRun_fact1 : (laidOutB Tryz.prog) = true := by kernel_rfl
theorem fnExactBookRun_fact2 : (mapsRowed Tryz.prog) = true := by kernel_rfl
theorem fnExactBookRun_fact3 : (Tryz.f7.params.all (Tryz.prog.readableRec ·)) = true := by kernel_rfl
theorem fnExactBookRun_fact4 : (namedTie Tryz.prog Rows.fnExactBookRunRow.named Rows.fnExactBookRunSpec.vars) = true := by kernel_rfl
theorem fnExactBookRun_fact5 : ((Rows.fnExactBookRunRow.stops == [])) = true := by kernel_rfl
theorem fnExactBookRun_fact6 : ((Tryz.prog.stops == [])) = true := by kernel_rfl
theorem fnExactBookRun_fact7 : ((Rows.fnExactBookRunRow.knobs == [])) = true := by kernel_rfl
theorem fnExactBookRun_fact8 : ((Tryz.prog.stopKnobs == [])) = true := by kernel_rfl
theorem fnExactBookRun_fact9 : ((Rows.fnExactBookRunRow.inPlace == Tryz.prog.inPlace 7)) = true := by kernel_rfl
theorem fnExactBookRun_fact10 : ((Rows.fnExactBookRunRow.unfollowed == Tryz.prog.unfollowed 7)) = true := by kernel_rfl
theorem fnExactBookRun_fact11 : ((Rows.fnExactBookRunRow.recurses == Tryz.prog.recurses 7)) = true := by kernel_rfl
theorem fnExactBookRun_fact12 : ((Rows.fnExactBookRunRow.named == Tryz.prog.varsNamed 7)) = true := by kernel_rfl
theorem fnExactBookRun_fact13 : ((Rows.fnExactBookRunRow.maps == (Tryz.f7.params.toList ++ Rows.fnExactBookRunSpec.plain.varTypes Tryz.prog).any (Tryz.prog.mapsRec ·))) = true := by kernel_rfl
theorem fnExactBookRun_fact14 : ((Rows.fnExactBookRunRow.ifaces == (Tryz.f7.params.toList ++ Rows.fnExactBookRunSpec.plain.varTypes Tryz.prog).any (Tryz.prog.ifacesRec ·))) = true := by kernel_rfl
theorem fnExactBookRun_fact15 : ((Rows.fnExactBookRunRow.mapsOut == Tryz.prog.mapsAmong Tryz.f7.resultTypes.toList)) = true := by kernel_rfl
theorem fnExactBookRun_fact16 : ((Rows.fnExactBookRunRow.loops == (Tryz.f7.params.toList ++ Rows.fnExactBookRunSpec.plain.varTypes Tryz.prog).any (Tryz.prog.loopsFrom ·))) = true := by kernel_rfl
theorem fnExactBookRun_fact17 : ((Rows.fnExactBookRunRow.wideKeys == (Tryz.f7.params.toList ++ Rows.fnExactBookRunSpec.plain.varTypes Tryz.prog ++ Tryz.f7.resultTypes.toList).any (Tryz.prog.wideKeysFrom ·))) = true := by kernel_rfl
theorem fnExactBookRun_fact18 : (Rows.fnExactBookRunSpec.vars.all (Tryz.prog.varReadable ·)) = true := by kernel_rfl
theorem fnExactBookRun_fact19 : (Tryz.f7.resultTypes.all (fun t => Tryz.prog.readableRec t && decide (t < Tryz.prog.types.size))) = true := by kernel_rfl
theorem fnExactBookRun_fact20 : ((Rows.fnExactBookRunRow.ifacesOut == Tryz.f7.resultTypes.toList.any (Tryz.prog.ifacesRec ·))) = true := by kernel_rfl
theorem fnExactBookRun_fact21 : ((Rows.fnExactBookRunRow.loopsOut == Tryz.f7.resultTypes.toList.any (Tryz.prog.loopsFrom ·))) = true := by kernel_rfl
theorem fnExactBookRun_fact22 : ((Rows.fnExactBookRunRow.plainKeys == Tryz.prog.plainKeys)) = true := by kernel_rfl
theorem fnExactBookRun_fact23 : (Rows.fnExactBookRunRow.shortTexts.isNone) = true := by kernel_rfl
theorem fnExactBookRun_fact24 : (Tryz.prog.stopsHeard) = true := by kernel_rfl
theorem fnExactBookRun_fact25 : (Tryz.prog.mayEnter) = true := fact_mayEnter
theorem fnExactBookRun_fact26 : ((Rows.fnExactBookRunRow.lifted == Tryz.prog.liftsFinal)) = true := by rw [fact_liftsFinal]; rfl
theorem fnExactBookRun_fact27 : ((Tryz.prog.make == some Rows.fnExactBookRunRow.make)) = true := by rw [fact_make]; rfl
theorem fnExactBookRun_fact28 : Rows.fnExactBookRunRow.domain = [] ∧ Rows.fnExactBookRunRow.kinds = [] := ⟨rfl, rfl⟩
theorem fnExactBookRun_fact29 : ((Rows.fnExactBookRunRow.pinned == Rows.fnExactBookRunRow.pinnedBy)) = true := by kernel_rfl
theorem fnExactBookRun_fact30 : ((Rows.fnExactBookRunRow.veiled == (Tryz.f7.params.toList ++ Rows.fnExactBookRunSpec.plain.varTypes Tryz.prog ++ Tryz.f7.resultTypes.toList).any (Tryz.prog.veiledRec ·))) = true := by kernel_rfl
theorem fnExactBookRun_fact31 : (Rows.fnExactBookRunRow.veiledFits Tryz.prog Tryz.f7.params.toList (Tryz.f7.params.toList ++ Rows.fnExactBookRunSpec.plain.varTypes Tryz.prog ++ Tryz.f7.resultTypes.toList)) = true := by kernel_rfl
theorem fnExactBookRun_facts : joinedFacts Tryz.prog 7 Tryz.f7 Rows.fnExactBookRunSpec Rows.fnExactBookRunRow = true :=
  joinedFacts_of fnExactBookRun_fact0 fnExactBookRun_fact1 fnExactBookRun_fact2 fnExactBookRun_fact3 fnExactBookRun_fact4 fnExactBookRun_fact5 fnExactBookRun_fact6 fnExactBookRun_fact7 fnExactBookRun_fact8 fnExactBookRun_fact9 fnExactBookRun_fact10 fnExactBookRun_fact11 fnExactBookRun_fact12 fnExactBookRun_fact13 fnExactBookRun_fact14 fnExactBookRun_fact15 fnExactBookRun_fact16 fnExactBookRun_fact17 fnExactBookRun_fact18 fnExactBookRun_fact19 fnExactBookRun_fact20 fnExactBookRun_fact21 fnExactBookRun_fact22 fnExactBookRun_fact23 fnExactBookRun_fact24 fnExactBookRun_fact25 fnExactBookRun_fact26 fnExactBookRun_fact27 fnExactBookRun_fact28 fnExactBookRun_fact29 fnExactBookRun_fact30 fnExactBookRun_fact31

set_option maxRecDepth 100000 in
theorem fnExactBookRun_lifted (os : Os) (started : os.Started) (H : Type) (enc : TypeId × Value → H) :
    ReturnsInHanded {} Tryz.checked os 7 .any (Rows.fnExactBookRunSpec.pre6 enc Tryz.prog Tryz.f7 Rows.fnExactBookRunRow.domain false) (Rows.fnExactBookRunSpec.post enc Tryz.prog Tryz.f7 false true false false) := by
  refine returnsInHanded_of_change (C := Tryz.checked) own started (by kernel_rfl) Tryz.func7
    (ChangeSpec.witness6 (enc := enc) (C := Tryz.checked) false ⟨#[], #[.agg #[.int .i64 0, .int .i64 0, .slice none 0 0, .slice none 0 0, .slice none 0 0, .slice none 0 0], .slice none 0 0], []⟩ 8 (by kernel_rfl) (by kernel_rfl) (by kernel_rfl) (by kernel_rfl)) ?_
  intro W base args ds gs before hval0 hW hcnd _
  have hval : ∀ (j : Nat) t v, Tryz.f7.params[j]? = some t → args[j]? = some v → Value.okWide Tryz.prog W .any base t v := hval0
  have hW' : DataW.Whole enc Tryz.prog Tryz.f7.params.toList Rows.fnExactBookRunSpec.vars false W args.toList ds gs before := hW
  obtain ⟨p, q, hA0, hV, hpq, hfz, hnd⟩ := hW
  have hA : DataW.TrodAll enc Tryz.prog W 0 (fun _ => true) true Tryz.f7.params.toList args.toList ds p := hA0
  rw [Tryz.params7] at hA hval
  obtain ⟨v0, v1, d0, d1, p0, p1, rfl, rfl, rfl, h0, h1⟩ := trodAll_two hA
  obtain ⟨rfl, rfl⟩ := trodVars_none hV
  rw [List.append_nil] at hpq
  subst hpq
  obtain ⟨W0, T0, cs0, ds0, ls0, ps0, hc0, hd0, hl0, hb0, hp0, r0⟩ := read_book Tryz.underlying47 kBook Tryz.underlying45 kReg kInts kInts kIntss ⟨rfl, rfl, rfl, rfl⟩ ⟨rfl, rfl, rfl⟩ kInt kInt kBools Tryz.underlying3 Tryz.underlying3 Tryz.underlying23 Tryz.underlying4 kBool Tryz.underlying26 Tryz.underlying26 Tryz.underlying3 kInt Tryz.underlying29 Tryz.underlying26 kInts (hval 0 47 v0 rfl rfl) h0
  obtain ⟨xs1, hx1, hs1, r1⟩ := read_deeds Tryz.underlying56 Tryz.underlying48 kDeed rfl rfl rfl kInt kInt kInt Tryz.underlying3 Tryz.underlying3 Tryz.underlying3 (hval 1 56 v1 rfl rfl) h1
  exact law_post (tb := 4) (s_FnExactBookRun W0 T0 cs0 ds0 ls0 ps0 xs1 hc0 hd0 hl0 hb0 hp0 hx1 hs1) (RL.cons0 r0 (RL.cons0 r1 RL.nil0)) laidOut
    (by
      rw [Tryz.params7]
      intro t ht
      simp at ht
      rcases ht with rfl | rfl
      · exact ⟨rBook, of_decide_eq_true (by kernel_rfl)⟩
      · exact ⟨rDeeds, of_decide_eq_true (by kernel_rfl)⟩) hW' rfl rfl (by kernel_rfl) Tryz.underlying4

theorem fnExactBookRun_holds : Rows.FnExactBookRunSaid :=
  OpenClaim.holds_of_wide 7 Tryz.f7 rfl rfl rfl rfl rfl rfl rfl ⟨rfl, rfl, rfl, rfl, rfl⟩ rfl rfl rfl rfl rfl (by kernel_rfl) Tryz.func7 fnExactBookRun_facts
    (of_decide_eq_true (by kernel_rfl)) (by unfold Func.isWrapper; first | (rw [if_pos (by decide +kernel)]; kernel_rfl) | (rw [if_neg (by decide +kernel)]; exact ⟨rfl, rfl⟩))
    (fun os started H enc _ => fnExactBookRun_lifted os started H enc)

end Go.Proofs.YtakaenhgbkbegaaGreat
