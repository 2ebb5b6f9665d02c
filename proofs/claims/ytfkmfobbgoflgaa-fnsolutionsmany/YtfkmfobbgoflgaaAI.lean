/- Contracts of the functions of the program over slots and rows, each proved against the program itself; no condition beyond those that each theorem names. -/
import Derived.Test.YtfkmfobbgoflgaaAH
import Derived.OrdersHeld

set_option linter.unusedSimpArgs false
set_option linter.unusedVariables false

namespace Go.Proofs.Dev
set_option linter.unusedSimpArgs false
set_option linter.unusedVariables false

theorem run_load_cells2 {P : Program} {C : Ctx} {t : TypeId} {d : TypeDesc} {i : TypeInfo} (hd : P.underlying t = some d) (hi : P.info? t = some i) {b p o : Nat} {cs : List AV} {us : List Value} {av : AV}
    (hr : RL C cs [] us) (hl : ldc (aggD d) i.size o cs = some av) :
    ∃ v, (∀ w, Cells w b p us → (Instr.loadAt t (.pointer (some ⟨b, p + o, none⟩))).run P w = .ok v w) ∧ R C av [] v := by
  simp only [Instr.loadAt, Instr.sureAddr, loadVar, Sem.run_bind, Sem.run_pure, Result.andThen_ok, run_isAgg' hd]
  cases hg : aggD d with
  | true =>
    rw [hg] at hl
    simp only [ldc, if_true] at hl
    split at hl
    · rename_i hk
      cases hl
      have hw := hr.window o i.size hk
      have hlen : ((us.drop o).take i.size).length = i.size := by rw [hw.length]; simp; omega
      refine ⟨.agg ((us.drop o).take i.size).toArray, ?_, by rw [R]; exact ⟨_, rfl, hw⟩⟩
      intro w hc
      simp only [if_true, Sem.run_bind, run_sizeOf' hi, Result.andThen_ok]
      have := run_loadCells_list (P := P) (w := w) ⟨b, p + o, none⟩ ((us.drop o).take i.size) (by
        intro j v hj
        rw [addr_add, Nat.add_assoc]
        refine hc (o + j) v ?_
        rw [List.getElem?_take] at hj
        split at hj
        · rwa [List.getElem?_drop] at hj
        · cases hj)
      rw [hlen] at this
      rw [this]; rfl
    · cases hl
  | false =>
    rw [hg] at hl
    simp only [ldc, Bool.false_eq_true, if_false] at hl ⊢
    obtain ⟨S1, S2, S3, u, hS, hu, hR⟩ := hr.get hl
    obtain ⟨rfl, rfl, rfl⟩ : S1 = [] ∧ S2 = [] ∧ S3 = [] := by simpa using hS.symm
    exact ⟨u, fun w hc => by rw [run_load, hc o u hu], hR⟩

def isBd : AK → Bool
  | .build .. => true
  | _ => false

def isNeutralE (P : Program) (n : Nat) (ops : Array Oper) (i : Nat) : Bool := match ops[i]? with
  | some o => match cOper P n ops o with
    | some a => nkind a.k || isBd a.k
    | none => false
  | none => false

/-- As 'mkPlan', where an aggregate is built as soon as it can be. -/
def mkPlanE (P : Program) (n : Nat) (ops : Array Oper) : Nat → Array Bool → Option Plan
  | 0, listed => if (Region.ready .any ops listed).isEmpty then some .done else none
  | fuel + 1, listed => if (Region.ready .any ops listed).isEmpty then some .done else
    match (Region.ready .any ops listed).find? fun i => Region.free .any ops listed i && isNeutralE P n ops i with
    | some i => (ops[i]?).bind fun o => (cOper P n ops o).bind fun a => (mkPlanE P n ops fuel (listed.setIfInBounds i true)).bind fun p => some (.take a p)
    | none => planAlts P n ops (fun i => mkPlanE P n ops fuel (listed.setIfInBounds i true)) (Region.ready .any ops listed)

def isLd (a : AOper) : Bool := match a.k, a.guard with
  | .load .., none => true
  | _, _ => false

def isEarly (P : Program) (n : Nat) (ops : Array Oper) (i : Nat) : Bool := match ops[i]? with
  | some o => match cOper P n ops o with
    | some a => nkind a.k || isLd a
    | none => false
  | none => false

/-- Neutral operations and loads first; then the orders of the others. -/
def mkEarly (P : Program) (n : Nat) (ops : Array Oper) : Nat → Array Bool → Option (List AOper × Plan)
  | 0, listed => (mkPlanE P n ops 0 listed).map fun p => ([], p)
  | fuel + 1, listed => match (Region.ready .any ops listed).find? fun i => Region.free .any ops listed i && isEarly P n ops i with
    | some i => (ops[i]?).bind fun o => (cOper P n ops o).bind fun a => (mkEarly P n ops fuel (listed.setIfInBounds i true)).bind fun r => some (a :: r.1, r.2)
    | none => (mkPlanE P n ops (fuel + 1) listed).map fun p => ([], p)

/-- A load is of what is read alone. -/
def viewOk (o : AOper) (E : ES) : Prop := match o.k with
  | .load .. => ∃ x c cs i, o.xs = [x] ∧ evE E x = .vp c cs i ∧ c ≤ 1
  | _ => True

def awpEarly (P : Program) (md : Nat → List Bool) : List AOper → Plan → (ES → Heap → Prop) → ES → Heap → Prop
  | [], p, K, E, H => awpPlan P md p K E H
  | o :: os, p, K, E, H => viewOk o E ∧ awpOp P md o E H (awpEarly P md os p K)

inductive BCode where
  | base (ac : ACode)
  | early (hs : List AOper) (p : Plan)
  | pure (hs : List AOper)
  | seq (a b : BCode)
  | frz (t : Nat) (a : BCode)

def cB (P : Program) (n : Nat) : BCode → Code → Option BCode
  | .base _, c => (cCode P n c).map .base
  | .seq a b, .seq c d => (cB P n a c).bind fun x => (cB P n b d).bind fun y => some (.seq x y)
  | .early _ _, .region _ ops true => if P.follows .mixedOrders && Region.noSelect ops then (mkEarly P n ops ops.size (Array.replicate ops.size false)).map fun r => .early r.1 r.2 else none
  | .pure _, .region _ ops true => if P.follows .mixedOrders && Region.noSelect ops then (mkEarly P n ops ops.size (Array.replicate ops.size false)).bind fun r => match r.2 with
    | .done => some (.pure r.1)
    | _ => none
    else none
  | .frz t a, c => (cB P n a c).map (.frz t)
  | _, _ => none

def eraseB : BCode → BCode
  | .base ac => .base (erase ac)
  | .seq a b => .seq (eraseB a) (eraseB b)
  | .frz t a => .frz t (eraseB a)
  | b => b

/-- What a variable holds that is read alone from here on. -/
def frzC : AV → Option AV
  | .v x => some (.v x)
  | .sl c sz es => if c ≤ 1 then some (.sl 1 sz (vwL 1 es)) else none
  | _ => none
def frzL : List AV → Option (List AV)
  | [] => some []
  | a :: l => match frzC a, frzL l with
    | some x, some y => some (x :: y)
    | _, _ => none

def frzNode (t : Nat) (K : ES → Heap → Prop) (E : ES) (H : Heap) : Prop :=
  ∃ sz id o cs cs', get E t = .lp sz id 0 o ∧ H[id]? = some (some (.box cs)) ∧ frzL cs = some cs' ∧ K (putE (purgeE E) (some t) (.vp 1 cs' o)) (killAll [id] (purgeH H))

def awpB (P : Program) (md : Nat → List Bool) : BCode → (AExit → ES → Heap → Prop) → ES → Heap → Prop
  | .base ac, Q, E, H => awp P md ac Q E H
  | .early hs p, Q, E, H => awpEarly P md hs p (Q .normal) E H
  | .pure hs, Q, E, H => awpOps P md hs (Q .normal) E H
  | .seq a b, Q, E, H => awpB P md a (athen (awpB P md b Q) Q) E H
  | .frz t a, Q, E, H => frzNode t (awpB P md a Q) E H

section
variable {g : Env} {T : List AV} {H : Heap} {io : Nat → Option (Nat × Nat)} {B : Nat → List Nat} {tmps : Array Value} {w : World}

theorem frzC_ok {C C' : Ctx} (hw : C'.w = C.w) (hbad : ∀ c x, c ≤ 1 → ¬ C.bad c x → ¬ C'.bad 1 x) : ∀ (a a' : AV) (u : Value), frzC a = some a' → R C a [] u → R (C'.at 1) a' [] u
  | .v x, a', u, hf, hr => by
    simp only [frzC, Option.some.injEq] at hf; subst hf
    rw [R] at *; exact hr
  | .sl c sz es, a', u, hf, hr => by
    simp only [frzC] at hf
    split at hf
    case isFalse => cases hf
    rename_i hc
    cases hf
    have h1 := hr.closeS
    have h2 := vw_ok (C' := C') 1 (.sl c sz es) (C.at c) (fun _ => rfl) hw (fun d b _ hb => by
      simp only [Ctx.at, Classical.not_imp] at hb
      exact hbad c b hc hb.2) [] u h1 (by simp)
    simpa [vw] using h2
  | .bot, a', u, hf, hr => by simp [frzC] at hf
  | .vp .., a', u, hf, hr => by simp [frzC] at hf
  | .ls .., a', u, hf, hr => by simp [frzC] at hf
  | .lw .., a', u, hf, hr => by simp [frzC] at hf
  | .lp .., a', u, hf, hr => by simp [frzC] at hf
  | .os .., a', u, hf, hr => by simp [frzC] at hf
  | .op .., a', u, hf, hr => by simp [frzC] at hf
  | .fn .., a', u, hf, hr => by simp [frzC] at hf
  | .agg .., a', u, hf, hr => by simp [frzC] at hf
  | .tup .., a', u, hf, hr => by simp [frzC] at hf

theorem frzL_ok {C C' : Ctx} (hw : C'.w = C.w) (hbad : ∀ c x, c ≤ 1 → ¬ C.bad c x → ¬ C'.bad 1 x) : ∀ (l l' : List AV) (us : List Value), frzL l = some l' → RL C l [] us → RL (C'.at 1) l' [] us
  | [], l', us, hf, hr => by
    simp only [frzL, Option.some.injEq] at hf; subst hf
    rw [RL] at *; exact hr
  | a :: l, l', us, hf, hr => by
    simp only [frzL] at hf
    split at hf
    case h_2 => cases hf
    rename_i x y hx hy
    cases hf
    rw [RL] at *
    obtain ⟨S1, S2, u, us', hS, rfl, h1, h2⟩ := hr
    obtain ⟨rfl, rfl⟩ : S1 = [] ∧ S2 = [] := by simpa using hS.symm
    exact ⟨[], [], u, us', rfl, rfl, frzC_ok hw hbad a x u hx h1, frzL_ok hw hbad l y us' hy h2⟩

/-- A variable is given up: it is read alone from here on. -/
theorem Rel.freeze (h : Rel g T H io B tmps w) {sz id o : Nat} {cs cs' : List AV} {u : Value} (hu : R (ctx g H io B w) (.lp sz id 0 o) [] u) (hl : H[id]? = some (some (.box cs))) (hf : frzL cs = some cs') :
    ∃ io' B', Rel g (purgeL T) (killAll [id] (purgeH H)) io' B' tmps w ∧ R (ctx g (killAll [id] (purgeH H)) io' B' w) (.vp 1 cs' o) [] u := by
  have hset := h.settle true [id] (B id) (fun x hx => ⟨id, by simp, hx⟩) (by simp) w (Kept.refl _ _ _) [] 0 (by simp) (by simp) (by simp) (by simp) (by simp) (by simp)
  obtain ⟨s1, _, _, _⟩ := hset
  have e : setRows (prs []) (padN 0 (killAll [id] (if true = true then purgeH H else H))) = killAll [id] (purgeH H) := by simp [prs, setRows, padN]
  rw [e] at s1
  refine ⟨_, _, s1, ?_⟩
  obtain ⟨b, p, us, h1, h2, h3, h4, h5, h6⟩ := h.rows id _ hl
  rw [R] at hu
  obtain ⟨_, b', p', hi, rfl⟩ := hu
  simp only [ctx] at hi
  rw [h1] at hi; cases hi
  have hsub : ∀ i x, x ∈ bQ [] [id] B i → x ∈ B i ∧ i ≠ id := by
    intro i x hx
    simp only [bQ, findQ, List.find?_nil] at hx
    split at hx
    · cases hx
    · rename_i hni
      exact ⟨hx, by simpa using hni⟩
  rw [R]
  refine ⟨rfl, b, p, us, by simp, h3, ?_, h5, ?_⟩
  · rintro ⟨i, hx⟩
    obtain ⟨hx1, hx2⟩ := hsub i b hx
    exact hx2 (h.dj _ _ _ hx1 (by rw [h2]; simp))
  · refine frzL_ok (C := ctx g H io B w) (C' := ctx g (killAll [id] (purgeH H)) (ioQ [] io) (bQ [] [id] B) w) rfl ?_ cs cs' us hf h6
    intro c x hc hx
    rintro ⟨i, hi2⟩
    obtain ⟨hx1, _⟩ := hsub i x hi2
    have : c = 0 ∨ c = 1 := by omega
    rcases this with rfl | rfl
    · exact hx (.inl ⟨i, hx1⟩)
    · exact hx ⟨i, hx1⟩

end

section
variable {P : Program} {md : Nat → List Bool} {g : Env} {n : Nat} {gh : Array Value} {E : ES} {H : Heap} {io : Nat → Option (Nat × Nat)} {B : Nat → List Nat} {w : World} {a : Act}

/-- The same, counted from here. -/
def hereEnv (g : Env) (H : Heap) (B : Nat → List Nat) (w : World) : Env := ⟨w, (List.range H.length).flatMap B, g.forb⟩

theorem mem_here (h : RelE n gh g E H io B a w) (x : Nat) : x ∈ (hereEnv g H B w).lent ↔ ∃ id, x ∈ B id := by
  simp only [hereEnv, List.mem_flatMap, List.mem_range]
  constructor
  · rintro ⟨id, _, hx⟩; exact ⟨id, hx⟩
  · rintro ⟨id, hx⟩
    refine ⟨id, ?_, hx⟩
    rcases Nat.lt_or_ge id H.length with h1 | h1
    · exact h1
    · have := h.rel.dead id (fun row hl => by unfold Live at hl; rw [List.getElem?_eq_none h1] at hl; cases hl)
      rw [this] at hx; cases hx

theorem RelE.rebase (h : RelE n gh g E H io B a w) : RelE n gh (hereEnv g H B w) E H io B a w := by
  refine ⟨h.size, ?_, h.defers⟩
  have hr := h.rel
  exact ⟨hr.size, hr.tmps, hr.rows, hr.dead, hr.io, hr.nd, hr.dj, hr.lt, fun id x hx => .inr ((mem_here h x).2 ⟨id, hx⟩), Kept.refl _ _ _⟩

theorem RelE.unbase (h0 : RelE n gh g E H io B a w) {E' : ES} {H' : Heap} {io' : Nat → Option (Nat × Nat)} {B' : Nat → List Nat} {w' : World} {a' : Act} (h : RelE n gh (hereEnv g H B w) E' H' io' B' a' w') : RelE n gh g E' H' io' B' a' w' := by
  refine ⟨h.size, ?_, h.defers⟩
  have hr := h.rel
  have hk := h0.rel.kept
  refine ⟨hr.size, hr.tmps, hr.rows, hr.dead, hr.io, hr.nd, hr.dj, hr.lt, ?_, ?_⟩
  · intro id x hx
    rcases hr.own id x hx with h1 | h1
    · exact .inl (Nat.le_trans hk.size h1)
    · obtain ⟨id', h2⟩ := (mem_here h0 x).1 h1
      exact h0.rel.own id' x h2
  · refine hk.trans ⟨hr.kept.os, hr.kept.tape, hr.kept.output, hr.kept.size, ?_, hr.kept.room⟩
    intro k hk1 hk2
    refine hr.kept.block k (Nat.lt_of_lt_of_le hk1 hk.size) ?_
    intro hm
    obtain ⟨id', h2⟩ := (mem_here h0 k).1 hm
    rcases h0.rel.own id' k h2 with h3 | h3
    · omega
    · exact hk2 h3

/-- Which worlds a region may come to: what nobody holds is as it was. -/
def heldS (g : Env) (w : World) : Prop := ∀ k, k < g.w0.heap.size → k ∉ g.lent → w.heap[k]? = g.w0.heap[k]?

theorem RelE.held (h : RelE n gh g E H io B a w) : heldS g w := fun k hk hn => h.rel.kept.block k hk hn

theorem awpOp_neutralE (h : RelE n gh g E H io B a w) {ops : Array Oper} {o : Oper} {ao : AOper} (hc : cOper P n ops o = some ao) (hnk : nkind ao.k = true ∨ isBd ao.k = true) {K : ES → Heap → Prop} (hk : awpOp P md ao E H K) :
    ∃ v, Yields P ops o v a ∧ ∃ E1, RelE n gh g E1 H io B (a.put o.dst v) w ∧ K E1 H := by
  refine awpOp_neutral h hc ?_ hk
  rcases hnk with hnk | hbd
  · exact hnk
  · obtain ⟨dst, k, xs, gd⟩ := ao
    cases k <;> simp_all [isBd, nkind]

theorem plan_okH (hg : ∀ x, g.forb x → x < g.w0.heap.size) {ops : Array Oper} (hsel : Region.noSelect ops = true) {Q : Exit → Act → World → Prop} (hQ : ∀ c a w, ¬ Q (.panic c) a w) : ∀ (fuel : Nat) (listed : Array Bool) (p : Plan) {E : ES} {H : Heap} {io : Nat → Option (Nat × Nat)} {B : Nat → List Nat} {w : World} {a : Act} {K : ES → Heap → Prop},
    mkPlanE P n ops fuel listed = some p → RelE n gh g E H io B a w → awpPlan P md p K E H → (∀ E' H' io' B' a' w', K E' H' → RelE n gh g E' H' io' B' a' w' → Q .normal a' w') → wpAnyH P .any ops Q (heldS g) fuel listed a w
  | 0, listed, p, E, H, io, B, w, a, K, hp, h, hk, hq => by
    simp only [mkPlanE] at hp
    split at hp
    case isFalse => cases hp
    rename_i hr
    cases hp
    exact wpAnyH_done (by simpa using hr) (hq _ _ _ _ _ _ hk h) 0
  | fuel + 1, listed, p, E, H, io, B, w, a, K, hp, h, hk, hq => by
    simp only [mkPlanE] at hp
    split at hp
    · rename_i hr
      cases hp
      exact wpAnyH_done (by simpa using hr) (hq _ _ _ _ _ _ hk h) _
    · rename_i hr
      split at hp
      · rename_i i hi
        have h1 := List.find?_some hi
        have h2 := List.mem_of_find?_eq_some hi
        simp only [Bool.and_eq_true] at h1
        simp only [Option.bind_eq_some_iff, Option.some.injEq] at hp
        obtain ⟨o, ho, ao, hao, q, hq', rfl⟩ := hp
        have hnk : nkind ao.k = true ∨ isBd ao.k = true := by
          have := h1.2
          simpa [isNeutralE, ho, hao] using this
        obtain ⟨v, hy, E1, hR, hK⟩ := awpOp_neutralE h hao hnk hk
        exact wpAnyH_take ho hsel h1.1 (by simpa using h2) (fun c a w hp => absurd hp (hQ _ _ _)) hy.yieldsIf h.held (plan_okH hg hsel hQ fuel _ q hq' hR hK hq)
      · refine wpAnyH_all rfl (by simpa using hr) ?_
        intro i hi
        obtain ⟨o, ao, q, ho, hao, hq', hop⟩ := alts_ok hp hk i hi
        exact awpOp_ok h hg ho hao hop fun E' H' io' B' a' w' hK hR _ => ⟨hR.held, plan_okH hg hsel hQ fuel _ q hq' hR hK hq⟩

theorem cOp_load {dst : Option Nat} {op : Op} {ty : TypeId} {pos : String} {af : Array Edge} {gd : Option (Nat × Bool)} {ms : List Bool} {ag : Bool} {k : Nat} {xs : List Opd} (h : cOp P ⟨dst, op, ty, pos, af, gd⟩ ms = some (.load ag k, xs)) :
    ∃ t x d i x', op = .load t x ∧ P.underlying t = some d ∧ P.info? t = some i ∧ cO 1 x = some x' ∧ ag = aggD d ∧ k = i.size ∧ xs = [x'] := by
  cases op <;> (try (simp [cOp, Option.bind_eq_some_iff] at h; done))
  case load t x =>
    simp only [cOp, Option.bind_eq_some_iff, Option.some.injEq, Prod.mk.injEq, AK.load.injEq] at h
    obtain ⟨d, hd, i, hi, x', hx, ⟨rfl, rfl⟩, rfl⟩ := h
    exact ⟨t, x, d, i, x', rfl, hd, hi, hx, rfl, rfl, rfl⟩
  case binOp op t x y yt =>
    simp only [cOp, Option.bind_eq_some_iff] at h
    obtain ⟨d, _, h⟩ := h
    split at h <;> simp [Option.bind_eq_some_iff] at h
  case indexAddr t x y =>
    simp only [cOp, Option.bind_eq_some_iff] at h
    obtain ⟨d, _, h⟩ := h
    split at h <;> simp [Option.bind_eq_some_iff] at h
  case makeFunc fn first cap => cases fn <;> simp [cOp, Option.bind_eq_some_iff] at h
  case slice t x lo hi mx =>
    simp only [cOp, Option.bind_eq_some_iff] at h
    obtain ⟨d, _, _, _, _, _, _, _, _, _, h⟩ := h
    cases d <;> simp [Option.bind_eq_some_iff] at h
  case index t x y =>
    simp only [cOp, Option.bind_eq_some_iff] at h
    obtain ⟨d, _, _, _, _, _, h⟩ := h
    cases d <;> simp [Option.bind_eq_some_iff] at h
  case call c =>
    obtain ⟨callee, args, ats⟩ := c
    cases callee
    case invoke => simp [cOp] at h
    case builtin b => cases b <;> simp [cOp, Option.bind_eq_some_iff] at h
    case value x => cases x <;> simp [cOp, Option.bind_eq_some_iff] at h

/-- A load of what is read alone: one value, as long as nobody writes what is not held. -/
theorem load_early (h : RelE n gh g E H io B a w) (hw : w.heap = g.w0.heap) (hB : ∀ x, x ∈ g.lent → ∃ id, x ∈ B id) {ops : Array Oper} {o : Oper} {ao : AOper} (hc : cOper P n ops o = some ao) (hld : isLd ao = true) (hv : viewOk ao E) {K : ES → Heap → Prop} (hk : awpOp P md ao E H K) :
    ∃ v, YieldsIf P ops (heldS g) o v a ∧ ∃ E1, RelE n gh g E1 H io B (a.put o.dst v) w ∧ K E1 H := by
  obtain ⟨c1, hdst, c3⟩ := cOper_dst hc
  obtain ⟨dst, k, xs, gd⟩ := ao
  simp only at c1
  cases k <;> simp only [isLd] at hld <;> try (cases hld; done)
  rename_i ag kk
  cases gd with
  | some s => cases hld
  | none =>
  obtain ⟨x, c, cs, j, rfl, hx, hcc⟩ := hv
  have hk' : optK (aop (.load ag kk) [evE E x] H) fun r => K (putE E dst r.1) r.2 := hk
  rw [hx] at hk'
  simp only [aop, ald, optK, Option.map_eq_some_iff] at hk'
  obtain ⟨r, ⟨av, hav, rfl⟩, hK⟩ := hk'
  simp only [cOper, Option.bind_eq_some_iff] at hc
  obtain ⟨⟨k', xs'⟩, hop, hc⟩ := hc
  split at hc
  case isFalse => cases hc
  rename_i hcond
  simp only [okOp, Bool.and_eq_true, Bool.not_eq_true'] at hcond
  obtain ⟨⟨⟨d1, d2⟩, d3⟩, d4⟩ := hcond
  obtain ⟨hgd, e2, e3⟩ : o.guard = none ∧ k' = .load ag kk ∧ xs' = [x] := by
    split at hc
    · rename_i hg2
      simp only [Option.some.injEq, AOper.mk.injEq] at hc
      exact ⟨hg2, hc.2.1, hc.2.2.1⟩
    · simp only [Option.bind_eq_some_iff] at hc
      obtain ⟨s, _, hc⟩ := hc
      split at hc
      · simp at hc
      · cases hc
  subst e2 e3
  have heval : execOp a.eval o = execOp (withGh a gh).eval o := execOp_congr o (by intro cs b he; rw [he] at d3; simp [isSel] at d3) fun x hx => (eval_gh h.size (Array.all_eq_true_iff_forall_mem.1 d1 x hx)).symm
  have hrel : Rel g (toT (n + gh.size) E) H io B (withGh a gh).tmps w := h.rel
  obtain ⟨odst, op, type, pos, after, guard⟩ := o
  simp only at c1 hgd hdst
  obtain ⟨t, x0, d, i, x', rfl, hd, hi, h1, rfl, rfl, hxs⟩ := cOp_load hop
  simp only [List.cons.injEq, and_true] at hxs
  subst hxs
  have r1 := cO_ok hrel h1
  rw [ev_evE (c3 x (by simp)), hx] at r1
  have r1' := r1
  rw [R] at r1'
  obtain ⟨_, b, p, us, hu, hb, hbad, hcl, hr⟩ := r1'
  obtain ⟨v, h2, h3⟩ := run_load_cells2 (P := P) (b := b) (p := p) hd hi hr.open hav
  have hnb : b ∉ g.lent := by
    intro hm
    obtain ⟨id, hid⟩ := hB b hm
    have : c = 0 ∨ c = 1 := by omega
    rcases this with rfl | rfl
    · exact hbad (.inl ⟨id, hid⟩)
    · exact hbad ⟨id, hid⟩
  refine ⟨v, .inl ⟨by simp [Region.wanted, hgd], ?_⟩, _, h.put hdst h3, by subst c1; exact hK⟩
  intro w' hw'
  rw [heval]
  have hblk : w'.heap[b]? = w.heap[b]? := by
    rw [hw]
    exact hw' b (by rw [← hw]; exact hb) hnb
  have := h2 w' (hcl.of_block hblk)
  simp only [execOp, hu]
  simp [this]

theorem early_ok (hg : ∀ x, g.forb x → x < g.w0.heap.size) {ops : Array Oper} (hsel : Region.noSelect ops = true) {Q : Exit → Act → World → Prop} (hQ : ∀ c a w, ¬ Q (.panic c) a w) : ∀ (fuel : Nat) (listed : Array Bool) (hs : List AOper) (p : Plan) {E : ES} {H : Heap} {io : Nat → Option (Nat × Nat)} {B : Nat → List Nat} {w : World} {a : Act} {K : ES → Heap → Prop},
    mkEarly P n ops fuel listed = some (hs, p) → RelE n gh g E H io B a w → w.heap = g.w0.heap → (∀ x, x ∈ g.lent → ∃ id, x ∈ B id) → awpEarly P md hs p K E H → (∀ E' H' io' B' a' w', K E' H' → RelE n gh g E' H' io' B' a' w' → Q .normal a' w') → wpAnyH P .any ops Q (heldS g) fuel listed a w
  | 0, listed, hs, p, E, H, io, B, w, a, K, hp, h, hw, hB, hk, hq => by
    simp only [mkEarly, Option.map_eq_some_iff, Prod.mk.injEq] at hp
    obtain ⟨p', hp, rfl, rfl⟩ := hp
    exact plan_okH hg hsel hQ 0 listed p' hp h hk hq
  | fuel + 1, listed, hs, p, E, H, io, B, w, a, K, hp, h, hw, hB, hk, hq => by
    simp only [mkEarly] at hp
    split at hp
    · rename_i i hi
      have h1 := List.find?_some hi
      have h2 := List.mem_of_find?_eq_some hi
      simp only [Bool.and_eq_true] at h1
      simp only [Option.bind_eq_some_iff, Option.some.injEq, Prod.mk.injEq] at hp
      obtain ⟨o, ho, ao, hao, ⟨hs', p'⟩, hr, rfl, rfl⟩ := hp
      obtain ⟨hv, hk⟩ := hk
      have hearly : (nkind ao.k || isLd ao) = true := by
        have := h1.2
        simpa [isEarly, ho, hao] using this
      rw [Bool.or_eq_true] at hearly
      rcases hearly with hnk | hld
      · obtain ⟨v, hy, E1, hR, hK⟩ := awpOp_neutral h hao hnk hk
        exact wpAnyH_take ho hsel h1.1 (by simpa using h2) (fun c a w hp => absurd hp (hQ _ _ _)) hy.yieldsIf h.held (early_ok hg hsel hQ fuel _ hs' p' hr hR hw hB hK hq)
      · obtain ⟨v, hy, E1, hR, hK⟩ := load_early h hw hB hao hld hv hk
        exact wpAnyH_take ho hsel h1.1 (by simpa using h2) (fun c a w hp => absurd hp (hQ _ _ _)) hy h.held (early_ok hg hsel hQ fuel _ hs' p' hr hR hw hB hK hq)
    · simp only [Option.map_eq_some_iff, Prod.mk.injEq] at hp
      obtain ⟨p', hp, rfl, rfl⟩ := hp
      exact plan_okH hg hsel hQ (fuel + 1) listed p' hp h hk hq

/-- A load: one value, in all worlds with the same heap. -/
theorem load_ok2 {T : List AV} {tmps : Array Value} (h : Rel g T H io B tmps w) {t : TypeId} {d : TypeDesc} {i : TypeInfo} (hd : P.underlying t = some d) (hi : P.info? t = some i) {x av : AV} {u : Value}
    (hx : R (ctx g H io B w) x [] u) (hop : ald H (aggD d) i.size x = some av) : ∃ v, (∀ w', w'.heap = w.heap → (Instr.loadAt t u).run P w' = .ok v w') ∧ R (ctx g H io B w) av [] v := by
  have cell : ∀ {b p : Nat} {us : List Value} {w' : World}, Cells w b p us → w'.heap = w.heap → Cells w' b p us := fun hc hw => hc.of_block (by rw [hw])
  unfold ald at hop
  split at hop
  · rename_i c cs o
    rw [R] at hx
    obtain ⟨_, b, p, us, rfl, _, _, hc, hr⟩ := hx
    obtain ⟨v, h1, h2⟩ := run_load_cells2 (P := P) (b := b) (p := p) hd hi hr.open hop
    exact ⟨v, fun w' hw => h1 w' (cell hc hw), h2⟩
  · rename_i sz id n o
    rw [R] at hx
    obtain ⟨_, b, p, hio, rfl⟩ := hx
    simp only [ctx] at hio
    split at hop
    · rename_i cs hl
      split at hop
      case isFalse => cases hop
      rename_i hn
      subst hn
      obtain ⟨b', p', us, h1, h2, h3, h4, h5, h6⟩ := h.rows id _ hl
      rw [hio] at h1; cases h1
      obtain ⟨v, h7, h8⟩ := run_load_cells2 (P := P) (b := b) (p := p) hd hi h6 hop
      exact ⟨v, fun w' hw => by simp only [Nat.zero_mul, Nat.add_zero]; exact h7 w' (cell h5 hw), h8⟩
    · rename_i sz' es hl
      split at hop
      case isFalse => cases hop
      rename_i hn
      subst hn
      split at hop
      case h_2 => cases hop
      rename_i e he
      rcases h.rows id _ hl with ⟨h0, _, _⟩ | ⟨b', p', us, S, h1, h2, h3, h4, h5, h6, h7⟩
      · subst h0; simp at he
      · rw [hio] at h1; cases h1
        obtain ⟨S1, S2, S3, us1, us2, us3, rfl, rfl, e1, e2, _, e3, _⟩ := rl_elem h6 h7 he
        have hv := vwL_ok (C' := ctx g H io B w) 2 _ ((ctx g H io B w).at 0) (fun _ => rfl) rfl (fun d b _ hb => h.bad2 0 b (by simp only [Ctx.at, Classical.not_imp] at hb; exact hb.2)) _ _ e3 (fun x hx => h.not_head h2 hio hl (by simp [hx]))
        have hc := h5.right.left
        rw [e1] at hc
        obtain ⟨v, h8, h9⟩ := run_load_cells2 (P := P) hd hi hv.open hop
        exact ⟨v, fun w' hw => h8 w' (cell hc hw), h9⟩
    · cases hop
  · cases hop

theorem load_pure (h : RelE n gh g E H io B a w) {ops : Array Oper} {o : Oper} {ao : AOper} (hc : cOper P n ops o = some ao) (hld : isLd ao = true) {K : ES → Heap → Prop} (hk : awpOp P md ao E H K) :
    ∃ v, YieldsIf P ops (fun w' => w'.heap = w.heap) o v a ∧ ∃ E1, RelE n gh g E1 H io B (a.put o.dst v) w ∧ K E1 H := by
  obtain ⟨c1, hdst, c3⟩ := cOper_dst hc
  obtain ⟨dst, k, xs, gd⟩ := ao
  simp only at c1
  cases k <;> simp only [isLd] at hld <;> try (cases hld; done)
  rename_i ag kk
  cases gd with
  | some s => cases hld
  | none =>
  simp only [cOper, Option.bind_eq_some_iff] at hc
  obtain ⟨⟨k', xs'⟩, hop, hc⟩ := hc
  split at hc
  case isFalse => cases hc
  rename_i hcond
  simp only [okOp, Bool.and_eq_true, Bool.not_eq_true'] at hcond
  obtain ⟨⟨⟨d1, d2⟩, d3⟩, d4⟩ := hcond
  obtain ⟨hgd, e2, e3⟩ : o.guard = none ∧ k' = .load ag kk ∧ xs' = xs := by
    split at hc
    · rename_i hg2
      simp only [Option.some.injEq, AOper.mk.injEq] at hc
      exact ⟨hg2, hc.2.1, hc.2.2.1⟩
    · simp only [Option.bind_eq_some_iff] at hc
      obtain ⟨s, _, hc⟩ := hc
      split at hc
      · simp at hc
      · cases hc
  subst e2 e3
  have heval : execOp a.eval o = execOp (withGh a gh).eval o := execOp_congr o (by intro cs b he; rw [he] at d3; simp [isSel] at d3) fun x hx => (eval_gh h.size (Array.all_eq_true_iff_forall_mem.1 d1 x hx)).symm
  have hrel : Rel g (toT (n + gh.size) E) H io B (withGh a gh).tmps w := h.rel
  obtain ⟨odst, op, type, pos, after, guard⟩ := o
  simp only at c1 hgd hdst
  obtain ⟨t, x0, d, i, x', rfl, hd, hi, h1, rfl, rfl, rfl⟩ := cOp_load hop
  have hk' : optK (aop (.load (aggD d) i.size) [evE E x'] H) fun r => K (putE E dst r.1) r.2 := hk
  simp only [aop, optK, Option.map_eq_some_iff] at hk'
  obtain ⟨r, ⟨av, hav, rfl⟩, hK⟩ := hk'
  have r1 := cO_ok hrel h1
  rw [ev_evE (c3 x' (by simp))] at r1
  obtain ⟨v, h2, h3⟩ := load_ok2 (P := P) hrel hd hi r1 hav
  refine ⟨v, .inl ⟨by simp [Region.wanted, hgd], ?_⟩, _, h.put hdst h3, by subst c1; exact hK⟩
  intro w' hw'
  rw [heval]
  have := h2 w' hw'
  simp only [execOp]
  simp [this]

/-- A region that writes nothing: one order is enough. -/
theorem pure_ok {ops : Array Oper} (hsel : Region.noSelect ops = true) {Q : Exit → Act → World → Prop} (hQ : ∀ c a w, ¬ Q (.panic c) a w) (w : World) : ∀ (fuel : Nat) (listed : Array Bool) (hs : List AOper) {E : ES} {a : Act} {K : ES → Heap → Prop},
    mkEarly P n ops fuel listed = some (hs, .done) → RelE n gh g E H io B a w → awpOps P md hs K E H → (∀ E' H' a', K E' H' → H' = H → RelE n gh g E' H io B a' w → Q .normal a' w) → wpAnyH P .any ops Q (fun w' => w'.heap = w.heap) fuel listed a w
  | 0, listed, hs, E, a, K, hp, h, hk, hq => by
    simp only [mkEarly, Option.map_eq_some_iff, Prod.mk.injEq] at hp
    obtain ⟨p', hp, rfl, rfl⟩ := hp
    simp only [mkPlanE] at hp
    split at hp
    case isFalse => cases hp
    rename_i hr
    exact wpAnyH_done (by simpa using hr) (hq _ _ _ hk rfl h) 0
  | fuel + 1, listed, hs, E, a, K, hp, h, hk, hq => by
    simp only [mkEarly] at hp
    split at hp
    · rename_i i hi
      have h1 := List.find?_some hi
      have h2 := List.mem_of_find?_eq_some hi
      simp only [Bool.and_eq_true] at h1
      simp only [Option.bind_eq_some_iff, Option.some.injEq, Prod.mk.injEq] at hp
      obtain ⟨o, ho, ao, hao, ⟨hs', p'⟩, hr, rfl, rfl⟩ := hp
      have hearly : (nkind ao.k || isLd ao) = true := by
        have := h1.2
        simpa [isEarly, ho, hao] using this
      rw [Bool.or_eq_true] at hearly
      rcases hearly with hnk | hld
      · obtain ⟨v, hy, E1, hR, hK⟩ := awpOp_neutral h hao hnk hk
        exact wpAnyH_take ho hsel h1.1 (by simpa using h2) (fun c a w hp => absurd hp (hQ _ _ _)) hy.yieldsIf rfl (pure_ok hsel hQ w fuel _ hs' hr hR hK hq)
      · obtain ⟨v, hy, E1, hR, hK⟩ := load_pure h hao hld hk
        exact wpAnyH_take ho hsel h1.1 (by simpa using h2) (fun c a w hp => absurd hp (hQ _ _ _)) hy rfl (pure_ok hsel hQ w fuel _ hs' hr hR hK hq)
    · simp only [Option.map_eq_some_iff, Prod.mk.injEq] at hp
      obtain ⟨p', hp, rfl, rfl⟩ := hp
      simp only [mkPlanE] at hp
      split at hp
      · rename_i hr
        exact wpAnyH_done (by simpa using hr) (hq _ _ _ hk rfl h) _
      · split at hp
        · simp only [Option.bind_eq_some_iff, Option.some.injEq] at hp
          obtain ⟨_, _, _, _, _, _, hp⟩ := hp
          cases hp
        · rename_i hr _
          exfalso
          revert hp hr
          cases Region.ready .any ops listed with
          | nil => simp [planAlts]
          | cons r rs =>
            intro hr hp
            simp only [planAlts, Option.bind_eq_some_iff, Option.some.injEq] at hp
            obtain ⟨_, _, _, _, _, _, _, _, hp⟩ := hp
            cases hp

theorem awpB_ok : ∀ (bc : BCode) (code : Code) {g : Env} {E : ES} {H : Heap} {io : Nat → Option (Nat × Nat)} {B : Nat → List Nat} {w : World} {a : Act} {AQ : AExit → ES → Heap → Prop} {Q : Exit → Act → World → Prop}, (∀ x, g.forb x → x < g.w0.heap.size) →
    cB P n bc code = some (eraseB bc) → RelE n gh g E H io B a w → awpB P md bc AQ E H → (∀ e E' H' io' B' a' w', AQ e E' H' → RelE n gh g E' H' io' B' a' w' → Q e.to a' w') → code.wp P Q a w
  | .base ac, code, g, E, H, io, B, w, a, AQ, Q, hg, hc, h, hk, hq => by
    simp only [cB, eraseB, Option.map_eq_some_iff, BCode.base.injEq] at hc
    obtain ⟨ac', hc, rfl⟩ := hc
    exact awp_ok hg ac code hc h hk hq
  | .early hs p, code, g, E, H, io, B, w, a, AQ, Q, hg, hc, h, hk, hq => by
    cases code <;> try (simp [cB] at hc; done)
    case region id ops d =>
      cases d
      case false => simp [cB] at hc
      simp only [cB, eraseB] at hc
      split at hc
      case isFalse => cases hc
      rename_i hcond
      simp only [Bool.and_eq_true] at hcond
      simp only [Option.map_eq_some_iff, BCode.early.injEq] at hc
      obtain ⟨⟨hs', p'⟩, hp, rfl, rfl⟩ := hc
      have hd := h.drawn (w.drawn + 1)
      refine wp_mono (Q := fun e a w => match e with | .panic _ => False | e => Q e a w) (wp_region_held (S := heldS (hereEnv g H B { w with drawn := w.drawn + 1 })) hcond.1 ?_) ?_
      · refine early_ok (g := hereEnv g H B { w with drawn := w.drawn + 1 }) (fun x hx => Nat.lt_of_lt_of_le (hg x hx) hd.rel.kept.size) hcond.2 (fun _ _ _ hh => hh) ops.size _ hs' p' hp hd.rebase rfl (fun x hx => (mem_here hd x).1 hx) hk ?_
        intro E' H' io' B' a' w' hK hR
        exact hq .normal _ _ _ _ _ _ hK (hd.unbase hR)
      · intro e a w he
        cases e <;> first | exact he | exact he.elim
  | .pure hs, code, g, E, H, io, B, w, a, AQ, Q, hg, hc, h, hk, hq => by
    cases code <;> try (simp [cB] at hc; done)
    case region id ops d =>
      cases d
      case false => simp [cB] at hc
      simp only [cB, eraseB] at hc
      split at hc
      case isFalse => cases hc
      rename_i hcond
      simp only [Bool.and_eq_true] at hcond
      simp only [Option.bind_eq_some_iff] at hc
      obtain ⟨⟨hs', p'⟩, hp, hc⟩ := hc
      split at hc
      case h_2 => cases hc
      rename_i hdone
      simp only at hdone
      subst hdone
      simp only [Option.some.injEq, BCode.pure.injEq] at hc
      subst hc
      have hd := h.drawn (w.drawn + 1)
      refine wp_mono (Q := fun e a w => match e with | .panic _ => False | e => Q e a w) (wp_region_held (S := fun w' => w'.heap = w.heap) hcond.1 ?_) ?_
      · refine pure_ok hcond.2 (fun _ _ _ hh => hh) { w with drawn := w.drawn + 1 } ops.size _ hs' hp hd hk ?_
        intro E' H' a' hK hH hR
        subst hH
        exact hq .normal _ _ _ _ _ _ hK hR
      · intro e a w he
        cases e <;> first | exact he | exact he.elim
  | .seq x y, code, g, E, H, io, B, w, a, AQ, Q, hg, hc, h, hk, hq => by
    cases code <;> try (simp [cB] at hc; done)
    case seq c1 c2 =>
      simp only [cB, eraseB, Option.bind_eq_some_iff, Option.some.injEq, BCode.seq.injEq] at hc
      obtain ⟨x', h1, y', h2, rfl, rfl⟩ := hc
      refine wp_seq (awpB_ok x c1 hg h1 h hk ?_)
      intro e E' H' io' B' a' w' hA hR
      cases e with
      | normal => exact awpB_ok y c2 hg h2 hR hA hq
      | exit id => exact hq (.exit id) _ _ _ _ _ _ hA hR
      | ret => exact hq .ret _ _ _ _ _ _ hA hR
  | .frz t x, code, g, E, H, io, B, w, a, AQ, Q, hg, hc, h, hk, hq => by
    simp only [cB, eraseB, Option.map_eq_some_iff, BCode.frz.injEq, true_and] at hc
    obtain ⟨x', hc, rfl⟩ := hc
    obtain ⟨sz, id, o, cs, cs', hE, hl, hf, hK⟩ := hk
    have key : ∃ io' B', RelE n gh g (putE (purgeE E) (some t) (.vp 1 cs' o)) (killAll [id] (purgeH H)) io' B' a w := by
      have hidlt : id < H.length := Live.lt (r := .box cs) hl
      by_cases ht : t < n + gh.size
      · obtain ⟨u, hu, hr⟩ := h.rel.get t
        rw [toT_get ht, hE] at hr
        obtain ⟨io', B', h1, h2⟩ := h.rel.freeze hr hl hf
        rw [toT_purge] at h1
        have h3 := h1.put (some t) h2
        rw [toT_put] at h3
        have eV : putV (a.tmps ++ gh) (some t) u = a.tmps ++ gh := by
          simp only [putV]
          rw [← hu]
          apply Array.ext_getElem?
          intro j
          rw [Array.getElem?_setIfInBounds]
          by_cases hj : t = j
          · subst hj
            have hlt : t < (a.tmps ++ gh).size := by simp [h.size]; omega
            have hlt' : t < a.tmps.size + gh.size := by simpa using hlt
            simp [hlt', Array.getD]
          · rw [if_neg hj]
        rw [eV] at h3
        exact ⟨io', B', h.size, h3, h.defers⟩
      · obtain ⟨b, p, us, h1, h2, h3, h4, h5, h6⟩ := h.rel.rows id _ hl
        obtain ⟨io', B', h7, _⟩ := h.rel.freeze (sz := 0) (o := 0) (u := .pointer (some ⟨b, p, none⟩)) (by rw [R]; exact ⟨rfl, b, p, h1, by simp⟩) hl hf
        rw [toT_purge] at h7
        refine ⟨io', B', h.size, ?_, h.defers⟩
        show Rel g (toT (n + gh.size) ((t, AV.vp 1 cs' o) :: purgeE E)) _ _ _ _ _
        rw [toT_skip (by omega)]
        exact h7
    obtain ⟨io', B', hR⟩ := key
    exact awpB_ok x code hg hc hR hK hq

/-- What is checked of a function, by computation. -/
def cFnB (P : Program) (f : Nat) (n : Nat) (rs : List RV) (bc : BCode) : Prop :=
  ∃ fn code, P.funcs[f]? = some fn ∧ fn.body = some code ∧ fn.ntmps = n ∧ cRes P fn.results.toList = some rs ∧ cB P n bc code = some (eraseB bc) ∧ allLt n rs = true

end

theorem fn_okBG {P : Program} {md : Nat → List Bool} {f n : Nat} {rs : List RV} {bc : BCode} (hc : cFnB P f n rs bc) {as : List AV} {ms : List Bool} {post : AV → List AV → Prop} (hn : as.length ≤ n) {F : AExit → ES → Heap → Prop} (hF : ∀ e E H, F e E H → ∃ r ups, post r ups ∧ Fin rs n as.length ms r ups e E H)
    (hk : awpB P md bc F (iniE n as) (iniH as)) : SoundSet P f as post := by
  obtain ⟨fn, code, hfn, hbody, hnt, hres, hcode, hrs⟩ := hc
  intro w forb us S hr hnd hlt hforb
  have hul : us.length = as.length := hr.length
  obtain ⟨io, B, hrel⟩ := ini_ok hr hnd hlt hn (Array.replicate (n - us.length) undef) (by simp; omega)
  refine calls_of_wp hfn hbody ?_
  rw [hnt]
  have hE : RelE n us.toArray ⟨w, S, forb⟩ (iniE n as) (iniH as) io B { tmps := us.toArray ++ Array.replicate (n - us.toArray.size) undef, defers := [] } w := by
    refine ⟨by simp; omega, by simpa using hrel, rfl⟩
  refine awpB_ok (g := ⟨w, S, forb⟩) bc code hforb hcode hE hk ?_
  intro e E' H' io' B' a' w' hA hR
  obtain ⟨r, ups, hpost, he, av0, hav, ⟨r0, ks1⟩, hfz, hr0, ⟨ups0, ks2⟩, hfin, hu0, hnd2⟩ := hF _ _ _ hA
  simp only at hr0 hu0
  subst hr0 hu0
  have hrel' := hR.rel
  have hgh := gets_ok hrel' (seqN n as.length) (fun t ht => by have := seqN_lt _ _ _ ht; simp; omega)
  have hus : ((seqN n as.length).map fun t => (a'.tmps ++ us.toArray).getD t undef) = us := by
    rw [seqN_map]
    apply List.ext_getElem
    · simp [hul]
    · intro i h1 h2
      simp only [List.getElem_map, List.getElem_range]
      have hs := hR.size
      have : n + i < (a'.tmps ++ us.toArray).size := by simp; omega
      simp [Array.getD, this, Array.getElem_append_right, hs, h2]
  rw [hus] at hgh
  obtain ⟨S2, f1, f2⟩ := finL_ok hrel' _ ms us ups0 ks2 hfin hgh
  have hrun := resAV_run (P := P) hrel' hR.size (Nat.le_add_right _ _) hres (allLt_ok hrs) hav
  obtain ⟨v, hv, hvr⟩ := hrun
  obtain ⟨S1, r1, r2⟩ := fz_ok hrel' _ r0 ks1 v hfz hvr
  have hsub : List.Sublist (S1 ++ S2) ((ks1 ++ ks2).flatMap B') := by rw [List.flatMap_append]; exact r2.append f2
  have hmem : ∀ x ∈ S1 ++ S2, ∃ k, x ∈ B' k := fun x hx => by obtain ⟨k, _, hk⟩ := mem_of_sub hsub hx; exact ⟨k, hk⟩
  have hst : Step ((ctx ⟨w, S, forb⟩ H' io' B' w').at 0) (cout w' (S1 ++ S2) forb) := by
    refine ⟨Nat.le_refl _, ?_, fun _ _ hx => by simp [Ctx.at] at hx, Nat.le_refl _, fun _ _ => rfl, fun _ _ _ hr => hr⟩
    intro c b _ hbad
    simp only [Ctx.at, Classical.not_imp] at hbad
    obtain ⟨rfl, hbad⟩ := hbad
    refine ⟨?_, rfl⟩
    show ¬ (b ∈ S1 ++ S2 ∨ forb b)
    rintro (h1 | h1)
    · exact hbad (.inl (hmem b h1))
    · exact hbad (.inr h1)
  have hpost' : ∃ v S', Ending.returned v = .returned v ∧ RL (cout w' S' forb) (r0 :: ups0) S' (v :: us) ∧ S'.Nodup ∧ (∀ x ∈ S', x < w'.heap.size ∧ (w.heap.size ≤ x ∨ x ∈ S)) ∧ Kept w.heap.size S w w' := by
    refine ⟨v, S1 ++ S2, rfl, ?_, hsub.nodup (hrel'.flat_nodup hnd2), ?_, hrel'.kept⟩
    · rw [RL]
      exact ⟨S1, S2, v, us, rfl, rfl, R.step hst _ _ _ (fun _ _ => rfl) r1, RL.step hst _ _ _ (fun _ _ => rfl) f1⟩
    · intro x hx
      obtain ⟨k, hk⟩ := hmem x hx
      exact ⟨hrel'.lt k x hk, hrel'.own k x hk⟩
  rcases he with rfl | rfl
  · exact ⟨hR.defers, v, hv, r0, ups0, hpost, v, S1 ++ S2, rfl, by
      rw [RL]
      exact ⟨S1, S2, v, us, rfl, rfl, R.step hst _ _ _ (fun _ _ => rfl) r1, RL.step hst _ _ _ (fun _ _ => rfl) f1⟩, hsub.nodup (hrel'.flat_nodup hnd2), fun x hx => by
      obtain ⟨k, hk⟩ := hmem x hx
      exact ⟨hrel'.lt k x hk, hrel'.own k x hk⟩, hrel'.kept⟩
  · exact ⟨hR.defers, v, hv, r0, ups0, hpost, v, S1 ++ S2, rfl, by
      rw [RL]
      exact ⟨S1, S2, v, us, rfl, rfl, R.step hst _ _ _ (fun _ _ => rfl) r1, RL.step hst _ _ _ (fun _ _ => rfl) f1⟩, hsub.nodup (hrel'.flat_nodup hnd2), fun x hx => by
      obtain ⟨k, hk⟩ := hmem x hx
      exact ⟨hrel'.lt k x hk, hrel'.own k x hk⟩, hrel'.kept⟩

theorem fn_okB {P : Program} {md : Nat → List Bool} {f n : Nat} {rs : List RV} {bc : BCode} (hc : cFnB P f n rs bc) {as : List AV} {ms : List Bool} {r : AV} {ups : List AV} (hn : as.length ≤ n)
    (hk : awpB P md bc (Fin rs n as.length ms r ups) (iniE n as) (iniH as)) : SoundAt P f as r ups :=
  SoundSet.at (fn_okBG hc hn (F := Fin rs n as.length ms r ups) (fun _ _ _ hf => ⟨r, ups, ⟨rfl, rfl⟩, hf⟩) hk)

section
variable {P : Program} {md : Nat → List Bool} {K : ES → Heap → Prop} {Q : AExit → ES → Heap → Prop} {E : ES} {H : Heap}

@[simp] theorem awpB_base {ac : ACode} : awpB P md (.base ac) Q E H = awp P md ac Q E H := (rfl)
@[simp] theorem awpB_pure {hs : List AOper} : awpB P md (.pure hs) Q E H = awpOps P md hs (Q .normal) E H := (rfl)
@[simp] theorem awpB_seq {x y : BCode} : awpB P md (.seq x y) Q E H = awpB P md x (athen (awpB P md y Q) Q) E H := (rfl)
@[simp] theorem awpB_early {hs : List AOper} {p : Plan} : awpB P md (.early hs p) Q E H = awpEarly P md hs p (Q .normal) E H := (rfl)
@[simp] theorem awpB_frz {t : Nat} {x : BCode} : awpB P md (.frz t x) Q E H = frzNode t (awpB P md x Q) E H := (rfl)
@[simp] theorem awpEarly_nil {p : Plan} : awpEarly P md [] p K E H = awpPlan P md p K E H := (rfl)
@[simp] theorem awpEarly_none {dst : Option Nat} {k : AK} {xs : List Opd} {os : List AOper} {p : Plan} : awpEarly P md (⟨dst, k, xs, none⟩ :: os) p K E H = (viewOk ⟨dst, k, xs, none⟩ E ∧ awpX P md ⟨dst, k, xs, none⟩ E H (awpEarly P md os p K)) := (rfl)
theorem frz_on {t sz id o : Nat} {cs cs' : List AV} (h1 : get E t = .lp sz id 0 o) (h2 : H[id]? = some (some (.box cs))) (h3 : frzL cs = some cs') (h : K (putE (purgeE E) (some t) (.vp 1 cs' o)) (killAll [id] (purgeH H))) : frzNode t K E H :=
  ⟨sz, id, o, cs, cs', h1, h2, h3, h⟩

end

attribute [simp] viewOk frzL frzC

end Go.Proofs.Dev

namespace Go.Proofs.Dev

def FinP (rs : List RV) (n m : Nat) (ms : List Bool) (r : AV) (ups : List AV) (e : AExit) (E : ES) (H : Heap) : Prop :=
  (e = .normal ∨ e = .ret) ∧ optK (resAV E H rs) fun a => optK (fo H a) fun x => x.1 = r ∧ optK (finL H (gets E (seqN n m)) ms) fun y => y.1 = ups ∧ (x.2 ++ y.2).Nodup

/-- What holds at the end gives what may be given back. -/
theorem fn_okP {P : Program} {md : Nat → List Bool} {f n : Nat} {rs : List RV} {ac : ACode} (hc : cFn P f n rs ac) {as : List AV} {ms : List Bool} {post : AV → List AV → Prop} (hn : as.length ≤ n) {F : AExit → ES → Heap → Prop} (hF : ∀ e E H, F e E H → ∃ r ups, post r ups ∧ FinP rs n as.length ms r ups e E H)
    (hk : awp P md ac F (iniE n as) (iniH as)) : SoundSet P f as post := by
  obtain ⟨fn, code, hfn, hbody, hnt, hres, hcode, hrs⟩ := hc
  intro w forb us S hr hnd hlt hforb
  have hul : us.length = as.length := hr.length
  obtain ⟨io, B, hrel⟩ := ini_ok hr hnd hlt hn (Array.replicate (n - us.length) undef) (by simp; omega)
  refine calls_of_wp hfn hbody ?_
  rw [hnt]
  have hE : RelE n us.toArray ⟨w, S, forb⟩ (iniE n as) (iniH as) io B { tmps := us.toArray ++ Array.replicate (n - us.toArray.size) undef, defers := [] } w := by
    refine ⟨by simp; omega, by simpa using hrel, rfl⟩
  refine awp_ok (g := ⟨w, S, forb⟩) hforb ac code hcode hE hk ?_
  intro e E' H' io' B' a' w' hA hR
  obtain ⟨r, ups, hpost, he, av0, hav, ⟨r0, ks1⟩, hfz, hr0, ⟨ups0, ks2⟩, hfin, hu0, hnd2⟩ := hF _ _ _ hA
  simp only at hr0 hu0
  subst hr0 hu0
  have hrel' := hR.rel
  have hgh := gets_ok hrel' (seqN n as.length) (fun t ht => by have := seqN_lt _ _ _ ht; simp; omega)
  have hus : ((seqN n as.length).map fun t => (a'.tmps ++ us.toArray).getD t undef) = us := by
    rw [seqN_map]
    apply List.ext_getElem
    · simp [hul]
    · intro i h1 h2
      simp only [List.getElem_map, List.getElem_range]
      have hs := hR.size
      have : n + i < (a'.tmps ++ us.toArray).size := by simp; omega
      simp [Array.getD, this, Array.getElem_append_right, hs, h2]
  rw [hus] at hgh
  obtain ⟨S2, f1, f2⟩ := finL_ok hrel' _ ms us ups0 ks2 hfin hgh
  have hrun := resAV_run (P := P) hrel' hR.size (Nat.le_add_right _ _) hres (allLt_ok hrs) hav
  obtain ⟨v, hv, hvr⟩ := hrun
  obtain ⟨S1, r1, r2, _⟩ := fo_ok hrel' _ r0 ks1 v hfz hvr
  have hsub : List.Sublist (S1 ++ S2) ((ks1 ++ ks2).flatMap B') := by rw [List.flatMap_append]; exact r2.append f2
  have hmem : ∀ x ∈ S1 ++ S2, ∃ k, x ∈ B' k := fun x hx => by obtain ⟨k, _, hk⟩ := mem_of_sub hsub hx; exact ⟨k, hk⟩
  have hst : Step ((ctx ⟨w, S, forb⟩ H' io' B' w').at 0) (cout w' (S1 ++ S2) forb) := by
    refine ⟨Nat.le_refl _, ?_, fun _ _ hx => by simp [Ctx.at] at hx, Nat.le_refl _, fun _ _ => rfl, fun _ _ _ hr => hr⟩
    intro c b _ hbad
    simp only [Ctx.at, Classical.not_imp] at hbad
    obtain ⟨rfl, hbad⟩ := hbad
    refine ⟨?_, rfl⟩
    show ¬ (b ∈ S1 ++ S2 ∨ forb b)
    rintro (h1 | h1)
    · exact hbad (.inl (hmem b h1))
    · exact hbad (.inr h1)
  have hpost' : ∃ v S', Ending.returned v = .returned v ∧ RL (cout w' S' forb) (r0 :: ups0) S' (v :: us) ∧ S'.Nodup ∧ (∀ x ∈ S', x < w'.heap.size ∧ (w.heap.size ≤ x ∨ x ∈ S)) ∧ Kept w.heap.size S w w' := by
    refine ⟨v, S1 ++ S2, rfl, ?_, hsub.nodup (hrel'.flat_nodup hnd2), ?_, hrel'.kept⟩
    · rw [RL]
      exact ⟨S1, S2, v, us, rfl, rfl, R.step hst _ _ _ (fun _ _ => rfl) r1, RL.step hst _ _ _ (fun _ _ => rfl) f1⟩
    · intro x hx
      obtain ⟨k, hk⟩ := hmem x hx
      exact ⟨hrel'.lt k x hk, hrel'.own k x hk⟩
  rcases he with rfl | rfl
  · exact ⟨hR.defers, v, hv, r0, ups0, hpost, v, S1 ++ S2, rfl, by
      rw [RL]
      exact ⟨S1, S2, v, us, rfl, rfl, R.step hst _ _ _ (fun _ _ => rfl) r1, RL.step hst _ _ _ (fun _ _ => rfl) f1⟩, hsub.nodup (hrel'.flat_nodup hnd2), fun x hx => by
      obtain ⟨k, hk⟩ := hmem x hx
      exact ⟨hrel'.lt k x hk, hrel'.own k x hk⟩, hrel'.kept⟩
  · exact ⟨hR.defers, v, hv, r0, ups0, hpost, v, S1 ++ S2, rfl, by
      rw [RL]
      exact ⟨S1, S2, v, us, rfl, rfl, R.step hst _ _ _ (fun _ _ => rfl) r1, RL.step hst _ _ _ (fun _ _ => rfl) f1⟩, hsub.nodup (hrel'.flat_nodup hnd2), fun x hx => by
      obtain ⟨k, hk⟩ := hmem x hx
      exact ⟨hrel'.lt k x hk, hrel'.own k x hk⟩, hrel'.kept⟩

theorem fn_okPA {P : Program} {md : Nat → List Bool} {f n : Nat} {rs : List RV} {ac : ACode} (hc : cFn P f n rs ac) {as : List AV} {ms : List Bool} {r : AV} {ups : List AV} (hn : as.length ≤ n)
    (hk : awp P md ac (FinP rs n as.length ms r ups) (iniE n as) (iniH as)) : SoundAt P f as r ups :=
  SoundSet.at (fn_okP hc hn (F := FinP rs n as.length ms r ups) (fun _ _ _ hf => ⟨r, ups, ⟨rfl, rfl⟩, hf⟩) hk)

attribute [simp] FinP

end Go.Proofs.Dev
