/- Contracts of the functions of the program over slots and rows, each proved against the program itself; no condition beyond those that each theorem names. -/
import Derived.Test.YtfkmfobbgoflgaaGreatDoorAD
import Derived.Deep.LoopGhost
import Derived.Orders
import Derived.WalkSpells
import Derived.Laws.Cover3
set_option linter.unusedSimpArgs false
set_option linter.unusedVariables false
set_option maxRecDepth 100000
namespace Go.Proofs.Dev
def RG : AK → Bool
 | .mv | .pick | .build .. | .nilck | .bin .. | .un .. | .conv .. | .mkfn .. | .slice .. | .sslice .. | .fadr .. | .iadr .. | .fld .. | .idx .. | .sidx | .extr .. | .len .. | .mnx .. => true
 | _ => false
def ORun (P : Program) (g : Env) (T : List AV) (tmps : Array Value) (H : AH) (io : Nat → Option (Nat × Nat)) (B : Nat → List Nat) (m : Sem Next) (w : World) (av : AV) (H' : AH) (b : Bool) : Prop :=
 ∃ n v w' io' B', m.run P w = .ok n w' ∧ (n = .value v ∨ (n = .skip ∧ v = undef)) ∧ Rel g T H' io' B' tmps w' ∧ R (ctx g H' io' B' w') av [] v ∧
   (b = true → H' = H ∧ io' = io ∧ B' = B ∧ w' = w ∧ ∀ w2, m.run P w2 = .ok (.value v) w2)
section
variable {P : Program} {g : Env} {T : List AV} {H : AH} {io : Nat → Option (Nat × Nat)} {B : Nat → List Nat} {tmps : Array Value} {w : World}
theorem ORun.val1 (h : Rel g T H io B tmps w) {s : Sem Value} {av : AV} (hs : ∃ v, s.run P w = .ok v w ∧ R (ctx g H io B w) av [] v) : ORun P g T tmps H io B (do pure (.value (← s))) w av H false := by
 obtain ⟨v, h1, h2⟩ := hs
 exact ⟨.value v, v, w, io, B, by simp [h1], .inl rfl, h, h2, fun hb => by cases hb⟩
theorem ORun.val (h : Rel g T H io B tmps w) {s : Sem Value} {av : AV} {b : Bool} (hs : ∃ v, (∀ w, s.run P w = .ok v w) ∧ R (ctx g H io B w) av [] v) : ORun P g T tmps H io B (do pure (.value (← s))) w av H b := by
 obtain ⟨v, h1, h2⟩ := hs
 exact ⟨.value v, v, w, io, B, by simp [h1], .inl rfl, h, h2, fun _ => ⟨rfl, rfl, rfl, rfl, fun w2 => by simp [h1]⟩⟩
theorem ORun.eff {s : Sem Value} {av : AV} {H' : AH} (hs : ∃ v w' io' B', s.run P w = .ok v w' ∧ Rel g T H' io' B' tmps w' ∧ R (ctx g H' io' B' w') av [] v) : ORun P g T tmps H io B (do pure (.value (← s))) w av H' false := by
 obtain ⟨v, w', io', B', h1, h2, h3⟩ := hs
 exact ⟨.value v, v, w', io', B', by simp [h1], .inl rfl, h2, h3, fun hb => by cases hb⟩
theorem nU (C : Ctx) (sz : Nat) (v : Value) : R C (cv sz v) [] v := by
 unfold cv
 split
 ·rw [R]; exact ⟨none, 0, rfl, Nat.le_refl _, .inl ⟨rfl, rfl⟩⟩
 ·rename_i cs; rw [R]; exact ⟨cs.toList, by simp, Vw C _⟩
 ·rw [R]; exact ⟨rfl, rfl⟩
variable {a : Act}
theorem Cu (h : Rel g T H io B a.tmps w) {sz : Nat} {x : Operand} {o : Opd} (hc : cO sz x = some o) : R (ctx g H io B w) (ev T o) [] (a.eval x) := by
 cases x <;> simp only [cO, Option.some.injEq, reduceCtorEq] at hc
 ·subst hc
  obtain ⟨u, hu, hr⟩ := h.get _
  simp only [Act.eval, ev]; rw [hu]; exact hr
 ·subst hc; exact nU _ _ _
 ·simp only [Option.map_eq_some_iff] at hc
  obtain ⟨p, hp, rfl⟩ := hc
  have h1 := List.find?_some hp
  have h2 := List.mem_of_find?_eq_some hp
  simp only [beq_iff_eq] at h1
  subst h1
  exact gH h.glb p h2
 ·subst hc
  simp only [ev, Act.eval]; rw [R]; exact ⟨[], rfl, by rw [RL]; exact ⟨rfl, rfl⟩⟩
theorem TQ (h : Rel g T H io B a.tmps w) : ∀ {xs : List Operand} {os : List Opd}, cOs xs = some os → RL (ctx g H io B w) (os.map (ev T)) [] (xs.map a.eval)
 | [], os, hc => by simp only [cOs, Option.some.injEq] at hc; subst hc; simp [RL]
 | x :: xs, os, hc => by
   simp only [cOs, Option.bind_eq_some_iff] at hc
   obtain ⟨o, ho, os', hos, hh⟩ := hc
   cases hh
   rw [List.map_cons, List.map_cons, RL]
   exact ⟨[], [], _, _, rfl, rfl, Cu h ho, TQ h hos⟩
theorem TR (h : Rel g T H io B a.tmps w) : ∀ {xs : List Operand} {ts : List TypeId} {os : List Opd}, eU P xs ts = some os → RL (ctx g H io B w) (os.map (ev T)) [] (xs.map a.eval)
 | [], ts, os, hc => by simp only [eU, Option.some.injEq] at hc; subst hc; simp [RL]
 | x :: xs, ts, os, hc => by
   simp only [eU, Option.bind_eq_some_iff] at hc
   obtain ⟨o, ho, os', hos, hh⟩ := hc
   cases hh
   rw [List.map_cons, List.map_cons, RL]
   exact ⟨[], [], _, _, rfl, rfl, Cu h ho, TR h hos⟩
theorem RL.two {C : Ctx} {x y : AV} {us : List Value} (h : RL C [x, y] [] us) : ∃ u v, us = [u, v] ∧ R C x [] u ∧ R C y [] v := by
 rw [RL] at h
 obtain ⟨S1, S2, u, us', hS, rfl, h1, h2⟩ := h
 obtain ⟨rfl, rfl⟩ : S1 = [] ∧ S2 = [] := by simpa using hS.symm
 rw [RL] at h2
 obtain ⟨S1, S2, v, us', hS, rfl, h3, h4⟩ := h2
 obtain ⟨rfl, rfl⟩ : S1 = [] ∧ S2 = [] := by simpa using hS.symm
 rw [RL] at h4
 obtain ⟨_, rfl⟩ := h4
 exact ⟨u, v, rfl, h1, h3⟩
theorem RL.one {C : Ctx} {x : AV} {us : List Value} (h : RL C [x] [] us) : ∃ u, us = [u] ∧ R C x [] u := by
 rw [RL] at h
 obtain ⟨S1, S2, u, us', hS, rfl, h1, h2⟩ := h
 obtain ⟨rfl, rfl⟩ : S1 = [] ∧ S2 = [] := by simpa using hS.symm
 rw [RL] at h2
 obtain ⟨_, rfl⟩ := h2
 exact ⟨u, rfl, h1⟩
theorem ic {C : Ctx} {x av : AV} {u : Value} (hx : R C x [] u) (hop : bj x = some av) : av = x ∧ (Instr.loadAt 0 u = Instr.loadAt 0 u) ∧ ((∃ a, u = .pointer (some a)) ∨ ∃ f us, u = .func (.func f) #[] us) := by
 cases x <;> simp only [bj, Option.some.injEq, reduceCtorEq] at hop <;> subst hop <;> rw [R] at hx
 ·obtain ⟨_, b, p, us, rfl, _⟩ := hx; exact ⟨rfl, rfl, .inl ⟨_, rfl⟩⟩
 ·obtain ⟨_, b, p, _, rfl⟩ := hx; exact ⟨rfl, rfl, .inl ⟨_, rfl⟩⟩
 ·obtain ⟨b, p, us, S', hS, _⟩ := hx; cases hS
 ·obtain ⟨us, rfl, _⟩ := hx; exact ⟨rfl, rfl, .inr ⟨_, _, rfl⟩⟩
theorem Z0 {α : Type} (f : Operand → α) : ∀ (k : Nat) (ps : List (Nat × Operand)), ew k ps = true → ps.map (fun p => (p.1, f p.2)) = K7 k (ps.map fun p => f p.2)
 | _, [], _ => rfl
 | k, p :: ps, h => by
   simp only [ew, Bool.and_eq_true, beq_iff_eq] at h
   simp only [List.map_cons, K7, List.cons.injEq]
   exact ⟨by rw [h.1], Z0 f (k + 1) ps h.2⟩
theorem TS : ∀ {fs : List Field} {pl : List (Nat × Nat)}, PT P fs = some pl → ∀ w : World, (fs.mapM fun f => do pure (f.offset, ← sizeOf f.type) : Sem (List (Nat × Nat))).run P w = .ok pl w
 | [], pl, h, w => by simp only [PT, Option.some.injEq] at h; subst h; simp
 | f :: fs, pl, h, w => by
   simp only [PT, Option.bind_eq_some_iff] at h
   obtain ⟨i, hi, r, hr, hh⟩ := h
   cases hh
   have ih := TS hr w
   simp only [bind_pure_comp] at ih
   simp [List.mapM_cons, Bj hi, ih]
theorem Xv {C : Ctx} {t : TypeId} {d : TypeDesc} {i : TypeInfo} {z : Value} (hd : P.underlying t = some d) (hi : P.info? t = some i) (hz : i.zero = some z) {pl : List (Nat × Nat)} (hpl : nR P d = some pl)
  {ps : Array (Nat × Value)} {qs : List (Nat × Nat × AV)} (hl : ps.size = qs.length) (hp : ∀ (k : Nat) i v off size x, ps[k]? = some (i, v) → qs[k]? = some (off, size, x) → pl.toArray[i]? = some (off, size) ∧ R C x [] v)
  {cs' : List AV} (ha : TM (z.cells.toList.map zc) qs = some cs') : ∃ v, (∀ w, (Instr.build t ps).run P w = .ok v w) ∧ R C (.agg cs') [] v := by
 cases d <;> simp only [nR, reduceCtorEq] at hpl
 case struct fs =>
  obtain ⟨cells', e1, e2⟩ := Yu (C := C) (place := (pl.toArray[·]?)) ps.toList qs z.cells _ cs' (Vw C _) (by simpa using hl) (fun k i v off size x hk hq => hp k i v off size x (by simpa using hk) hq) ha
  refine ⟨.agg cells', ?_, by rw [R]; exact ⟨cells'.toList, rfl, e2⟩⟩
  intro w
  have hm : (fs.mapM fun f => do pure (f.offset, ← sizeOf f.type) : Sem (Array (Nat × Nat))).run P w = .ok pl.toArray w := by
   have := TS hpl w
   rw [Array.mapM_eq_mapM_toList]
   simp only [bind_pure_comp] at this ⊢
   simp [this]
  simp only [Instr.build, Sem.run_bind, Gl hi hz, Result.andThen_ok, AP hd, hm]
  rw [e1]; rfl
 case array n e =>
  simp only [Option.map_eq_some_iff] at hpl
  obtain ⟨ie, hie, rfl⟩ := hpl
  obtain ⟨cells', e1, e2⟩ := Yu (C := C) (place := fun i => some (i * ie.size, ie.size)) ps.toList qs z.cells _ cs' (Vw C _) (by simpa using hl) (fun k i v off size x hk hq => by
   obtain ⟨h1, h2⟩ := hp k i v off size x (by simpa using hk) hq
   refine ⟨?_, h2⟩
   simp only [List.getElem?_toArray, List.getElem?_map, Option.map_eq_some_iff] at h1
   obtain ⟨j, hj, he⟩ := h1
   have : j = i := by
    rcases Nat.lt_or_ge i n with h3 | h3
    ·rw [List.getElem?_range h3] at hj; simpa using hj.symm
    ·rw [List.getElem?_eq_none (by simpa using h3)] at hj; cases hj
   subst this
   rw [he]) ha
  refine ⟨.agg cells', ?_, by rw [R]; exact ⟨cells'.toList, rfl, e2⟩⟩
  intro w
  simp only [Instr.build, Sem.run_bind, Gl hi hz, Result.andThen_ok, AP hd, Bj hie]
  rw [e1]; rfl
theorem V3 {C : Ctx} {places : Array (Nat × Nat)} : ∀ {ps : List (Nat × Operand)} {qs : List (Nat × Nat)} {os : List Opd} {zs : List (Nat × Nat × AV)}, TP places ps = some qs → RL C (os.map (ev T)) [] ((ps.map (·.2)).map a.eval) → gL qs (os.map (ev T)) = some zs →
  ps.length = zs.length ∧ ∀ (k : Nat) i v off size x, (ps.map fun p => (p.1, a.eval p.2))[k]? = some (i, v) → zs[k]? = some (off, size, x) → places[i]? = some (off, size) ∧ R C x [] v
 | [], qs, os, zs, hp, hr, hz => by
   simp only [TP, Option.some.injEq] at hp; subst hp
   cases os with
   | nil => simp only [List.map_nil, gL, Option.some.injEq] at hz; subst hz; simp
   | cons o os => simp [gL] at hz
 | p :: ps, qs, os, zs, hp, hr, hz => by
   simp only [TP, Option.bind_eq_some_iff] at hp
   obtain ⟨q, hq, qs', hqs, hh⟩ := hp
   cases hh
   cases os with
   | nil => simp [gL] at hz
   | cons o os =>
     simp only [List.map_cons, gL, Option.map_eq_some_iff] at hz
     obtain ⟨zs', hzs, rfl⟩ := hz
     simp only [List.map_cons] at hr
     rw [RL] at hr
     obtain ⟨S1, S2, u, us', hS, hu, h1, h2⟩ := hr
     obtain ⟨rfl, rfl⟩ : S1 = [] ∧ S2 = [] := by simpa using hS.symm
     simp only [List.cons.injEq] at hu
     obtain ⟨rfl, rfl⟩ := hu
     obtain ⟨e1, e2⟩ := V3 (os := os) hqs h2 hzs
     refine ⟨by simp [e1], ?_⟩
     intro k i v off size x hk hz
     cases k with
     | zero =>
       simp only [List.map_cons, List.getElem?_cons_zero, Option.some.injEq, Prod.mk.injEq] at hk hz
       obtain ⟨rfl, rfl⟩ := hk
       obtain ⟨rfl, rfl, rfl⟩ := hz
       exact ⟨hq, h1⟩
     | succ k =>
       simp only [List.map_cons, List.getElem?_cons_succ] at hk hz
       exact e2 k i v off size x hk hz
theorem Xw (h : Rel g T H io B a.tmps w) {x : Option Operand} {os : List Opd} (hc : cOo x = some os) {rest : List AV} {bs : List Bool} {r : List (Option AV)} (hb : cK (x.isSome :: bs) (os.map (ev T) ++ rest) = some r) :
  ∃ b r', r = b :: r' ∧ cK bs rest = some r' ∧ au (ctx g H io B w) b (x.map a.eval) := by
 cases x with
 | none =>
   simp only [cOo, Option.some.injEq] at hc; subst hc
   simp only [Option.isSome_none, List.map_nil, List.nil_append, cK, Option.map_eq_some_iff] at hb
   obtain ⟨r', h1, rfl⟩ := hb
   exact ⟨none, r', rfl, h1, by simp [au]⟩
 | some x =>
   simp only [cOo, Option.bind_eq_some_iff] at hc
   obtain ⟨o, ho, hh⟩ := hc
   cases hh
   simp only [Option.isSome_some, List.map_cons, List.map_nil, List.cons_append, List.nil_append, cK, Option.map_eq_some_iff] at hb
   obtain ⟨r', h1, rfl⟩ := hb
   exact ⟨_, r', rfl, h1, by simp only [au, Option.map_some]; exact Cu h ho⟩
end
section
variable {P : Program} {g : Env} {T : List AV} {H : AH} {io : Nat → Option (Nat × Nat)} {B : Nat → List Nat} {w : World} {a : Act}
theorem j0 {α : Type} {xs : Array α} (h : xs.size = 2) : ∃ x y, xs = #[x, y] := by
 obtain ⟨l⟩ := xs
 match l, h with
 | [x, y], _ => exact ⟨x, y, rfl⟩
 | [], h => simp at h
 | [_], h => simp at h
 | _ :: _ :: _ :: _, h => simp at h
theorem k9 {C : Ctx} {x av : AV} {u : Value} (hx : R C x [] u) (hop : gI x = some av) : if isV x then ∃ s, u = .string s else ∃ a n c, u = .slice a n c := by
 cases x <;> simp only [gI, reduceCtorEq] at hop <;> simp only [isV, if_true, Bool.false_eq_true, if_false]
 ·rename_i x
  rw [R] at hx
  cases x <;> simp at hop
  exact ⟨_, hx.2⟩
 ·rw [R] at hx; obtain ⟨_, a, c, hu, _⟩ := hx; exact ⟨a, _, c, hu⟩
 ·rw [R] at hx; obtain ⟨_, _, a, c, hu, _⟩ := hx; exact ⟨a, _, c, hu⟩
 ·rw [R] at hx; obtain ⟨_, a, c, hu, _⟩ := hx; exact ⟨a, _, c, hu⟩
 ·rw [R] at hx; obtain ⟨a, c, hu, _⟩ := hx; exact ⟨a, _, c, hu⟩
def cM : AK → Bool
 | .call .. | .callv .. | .pick | .nilq .. => true
 | _ => false
theorem gM (h : Rel g T H io B a.tmps w) {o : Oper} {ms : List Bool} {k : AK} {xs : List Opd} (hc : cOp P o ms = some (k, xs)) (hk : cM k = false) {av : AV} {H' : AH} (hop : aop k (xs.map (ev T)) H = some (av, H')) :
  ORun P g T a.tmps H io B (execOp a.eval o) w av H' (RG k) := by
 obtain ⟨dst, op, type, pos, after, guard⟩ := o
 cases op
 case move x =>
  simp only [cOp, Option.bind_eq_some_iff, Option.some.injEq, Prod.mk.injEq] at hc
  obtain ⟨o, ho, rfl, rfl⟩ := hc
  simp only [List.map_cons, List.map_nil, aop, Option.some.injEq, Prod.mk.injEq] at hop
  obtain ⟨rfl, rfl⟩ := hop
  exact ⟨.value _, _, w, io, B, by simp [execOp], .inl rfl, h, Cu h ho, fun _ => ⟨rfl, rfl, rfl, rfl, fun w2 => by simp [execOp]⟩⟩
 case assign x =>
  simp only [cOp, Option.bind_eq_some_iff, Option.some.injEq, Prod.mk.injEq] at hc
  obtain ⟨o, ho, rfl, rfl⟩ := hc
  simp only [List.map_cons, List.map_nil, aop, Option.some.injEq, Prod.mk.injEq] at hop
  obtain ⟨rfl, rfl⟩ := hop
  exact ⟨.value _, _, w, io, B, by simp [execOp], .inl rfl, h, Cu h ho, fun _ => ⟨rfl, rfl, rfl, rfl, fun w2 => by simp [execOp]⟩⟩
 case pick c x y =>
  simp only [cOp, Option.bind_eq_some_iff, Option.some.injEq, Prod.mk.injEq] at hc
  obtain ⟨_, _, _, _, _, _, rfl, rfl⟩ := hc
  cases hk
 case alloc t =>
  simp only [cOp, Option.bind_eq_some_iff, Option.some.injEq, Prod.mk.injEq] at hc
  obtain ⟨i, hi, z, hz, rfl, rfl⟩ := hc
  simp only [List.map_nil, aop, Option.some.injEq, Prod.mk.injEq] at hop
  obtain ⟨rfl, rfl⟩ := hop
  exact ORun.eff (ep h hi hz)
 case box t x =>
  simp only [cOp, Option.bind_eq_some_iff, Option.some.injEq, Prod.mk.injEq] at hc
  obtain ⟨o, ho, rfl, rfl⟩ := hc
  simp only [List.map_cons, List.map_nil, aop] at hop
  exact ORun.eff (ko h (Cu h ho) hop)
 case load t x =>
  simp only [cOp, Option.bind_eq_some_iff, Option.some.injEq, Prod.mk.injEq] at hc
  obtain ⟨d, hd, i, hi, o, ho, rfl, rfl⟩ := hc
  simp only [List.map_cons, List.map_nil, aop, Option.map_eq_some_iff, Prod.mk.injEq] at hop
  obtain ⟨r, hr, rfl, rfl⟩ := hop
  exact ORun.val1 h (bt h hd hi (Cu h ho) hr)
 case store t x y =>
  simp only [cOp, Option.bind_eq_some_iff, Option.some.injEq, Prod.mk.injEq] at hc
  obtain ⟨i, hi, o, ho, o2, ho2, rfl, rfl⟩ := hc
  simp only [List.map_cons, List.map_nil, aop, Option.map_eq_some_iff, Prod.mk.injEq] at hop
  obtain ⟨r, hr, rfl, rfl⟩ := hop
  obtain ⟨w', B', h1, h2⟩ := ej h hi (Cu h ho) (Cu h ho2) hr
  exact ⟨.skip, undef, w', io, B', by simp [execOp, h1], .inr ⟨rfl, rfl⟩, h2, by simp [R], fun hb => by cases hb⟩
 case nilCheck x =>
  simp only [cOp, Option.bind_eq_some_iff, Option.some.injEq, Prod.mk.injEq] at hc
  obtain ⟨o, ho, rfl, rfl⟩ := hc
  simp only [List.map_cons, List.map_nil, aop, Option.map_eq_some_iff, Prod.mk.injEq] at hop
  obtain ⟨r, hr, rfl, rfl⟩ := hop
  have hx := Cu h ho
  obtain ⟨rfl, _, ⟨p, hp⟩ | ⟨f, us, hp⟩⟩ := ic hx hr
  ·exact ⟨.value _, _, w, io, B, by simp [execOp, hp], .inl rfl, h, hp ▸ hx, fun _ => ⟨rfl, rfl, rfl, rfl, fun w2 => by simp [execOp, hp]⟩⟩
  ·exact ⟨.value _, _, w, io, B, by simp [execOp, hp], .inl rfl, h, hp ▸ hx, fun _ => ⟨rfl, rfl, rfl, rfl, fun w2 => by simp [execOp, hp]⟩⟩
 case binOp op t x y yt =>
  simp only [cOp, Option.bind_eq_some_iff] at hc
  obtain ⟨d, hd, hc⟩ := hc
  split at hc
  ·simp only [Option.bind_eq_some_iff, Option.some.injEq, Prod.mk.injEq] at hc
   obtain ⟨_, _, rfl, _⟩ := hc
   cases hk
  simp only [Option.bind_eq_some_iff, Option.some.injEq, Prod.mk.injEq] at hc
  obtain ⟨kd, hkd, o, ho, o2, ho2, rfl, rfl⟩ := hc
  simp only [List.map_cons, List.map_nil, aop, Option.map_eq_some_iff, Prod.mk.injEq] at hop
  obtain ⟨r, hr, rfl, rfl⟩ := hop
  exact ORun.val h (kj hd hkd (Cu h ho) (Cu h ho2) hr)
 case unOp op t x =>
  simp only [cOp, Option.bind_eq_some_iff, Option.some.injEq, Prod.mk.injEq] at hc
  obtain ⟨o, ho, rfl, rfl⟩ := hc
  simp only [List.map_cons, List.map_nil, aop, Option.map_eq_some_iff, Prod.mk.injEq] at hop
  obtain ⟨r, hr, rfl, rfl⟩ := hop
  exact ORun.val h (nQ (Cu h ho) hr)
 case convert s t x =>
  simp only [cOp, Option.bind_eq_some_iff, Option.some.injEq, Prod.mk.injEq] at hc
  obtain ⟨d0, hd0, d, hd, kk, hkk, o, ho, rfl, rfl⟩ := hc
  unfold cvK at hkk
  split at hkk
  ·rename_i hstr
   have hd' : d = .string := by cases d <;> simp [ky] at hstr; rfl
   split at hkk
   case isFalse => cases hkk
   rename_i hu8
   cases hkk
   simp only [List.map_cons, List.map_nil, aop, Option.map_eq_some_iff, Prod.mk.injEq] at hop
   obtain ⟨r, hr, rfl, rfl⟩ := hop
   unfold u8D at hu8
   split at hu8
   case h_2 => cases hu8
   rename_i e
   split at hu8
   case h_2 => cases hu8
   rename_i he
   exact ORun.val1 h (kw h hd0 he (hd' ▸ hd) (Cu h ho) hr)
  ·simp only [Option.map_eq_some_iff] at hkk
   obtain ⟨k0, hk0, rfl⟩ := hkk
   simp only [List.map_cons, List.map_nil, aop, Option.map_eq_some_iff, Prod.mk.injEq] at hop
   obtain ⟨r, hr, rfl, rfl⟩ := hop
   have hd' : d = .int k0 := by cases d <;> simp [oO] at hk0; subst hk0; rfl
   exact ORun.val h (iQ hd0 (hd' ▸ hd) (Cu h ho) hr)
 case makeSlice t l c =>
  simp only [cOp, Option.bind_eq_some_iff] at hc
  obtain ⟨d, hd, e, he, i, hi, z, hz, o, ho, o2, ho2, hc⟩ := hc
  split at hc
  case isFalse => cases hc
  rename_i hzc
  cases hc
  have hd' : d = .slice e := by cases d <;> simp [slD] at he; subst he; rfl
  simp only [List.map_cons, List.map_nil, aop] at hop
  exact ORun.eff (iR h (hd' ▸ hd) hi hz (by simpa using hzc) (Cu h ho) (Cu h ho2) hop)
 case fieldAddr t x k =>
  simp only [cOp, Option.bind_eq_some_iff] at hc
  obtain ⟨d, hd, fs, hfs, f, hf, i, hi, o, ho, hc⟩ := hc
  split at hc
  case isTrue => cases hc
  rename_i h0
  cases hc
  have hd' : d = .struct fs := by cases d <;> simp [stD] at hfs; subst hfs; rfl
  simp only [List.map_cons, List.map_nil, aop, Option.map_eq_some_iff, Prod.mk.injEq] at hop
  obtain ⟨r, hr, rfl, rfl⟩ := hop
  obtain ⟨h1, h2⟩ := iG (hd' ▸ hd) hf hi (by simpa using h0) (Cu h ho) hr
  exact ORun.val h ⟨_, h1, h2⟩
 case field t x k =>
  simp only [cOp, Option.bind_eq_some_iff, Option.some.injEq, Prod.mk.injEq] at hc
  obtain ⟨d, hd, fs, hfs, f, hf, d', hd2, i, hi, o, ho, rfl, rfl⟩ := hc
  have hd' : d = .struct fs := by cases d <;> simp [stD] at hfs; subst hfs; rfl
  simp only [List.map_cons, List.map_nil, aop] at hop
  have hx := Cu h ho
  generalize ev T o = x' at hx hop
  cases x' <;> try (simp at hop; done)
  rename_i cs
  simp only [Option.map_eq_some_iff, Prod.mk.injEq] at hop
  obtain ⟨r, hr, rfl, rfl⟩ := hop
  exact ORun.val h (kq (hd' ▸ hd) hf hd2 hi hx hr)
 case indexAddr t x y =>
  simp only [cOp, Option.bind_eq_some_iff] at hc
  obtain ⟨d, hd, hc⟩ := hc
  split at hc
  ·rename_i n e har
   have hd' : d = .array n e := by cases d <;> simp [arD] at har; obtain ⟨rfl, rfl⟩ := har; rfl
   simp only [Option.bind_eq_some_iff] at hc
   obtain ⟨k, hnk, i, hi, o, ho, hc⟩ := hc
   split at hc
   case isFalse => cases hc
   rename_i hkn
   cases hc
   unfold oP at hnk
   split at hnk
   case h_2 => cases hnk
   rename_i kd m
   split at hnk
   case isFalse => cases hnk
   rename_i hm
   cases hnk
   simp only [List.map_cons, List.map_nil, aop, Option.map_eq_some_iff, Prod.mk.injEq] at hop
   obtain ⟨r, hr, rfl, rfl⟩ := hop
   obtain ⟨h1, h2⟩ := am (kd := kd) (hd' ▸ hd) hi hm hkn (Cu h ho) hr
   exact ORun.val h ⟨_, h1, h2⟩
  simp only [Option.bind_eq_some_iff, Option.some.injEq, Prod.mk.injEq] at hc
  obtain ⟨e, he, i, hi, o, ho, o2, ho2, rfl, rfl⟩ := hc
  have hd' : d = .slice e := by cases d <;> simp [slD] at he; subst he; rfl
  simp only [List.map_cons, List.map_nil, aop, Option.map_eq_some_iff, Prod.mk.injEq] at hop
  obtain ⟨r, hr, rfl, rfl⟩ := hop
  exact ORun.val h (iH (hd' ▸ hd) hi (Cu h ho) (Cu h ho2) hr)
 case index t x y =>
  simp only [cOp, Option.bind_eq_some_iff] at hc
  obtain ⟨d, hd, o, ho, o2, ho2, hc⟩ := hc
  cases d <;> try (simp at hc; done)
  case array n e =>
   simp only [Option.bind_eq_some_iff, Option.some.injEq, Prod.mk.injEq] at hc
   obtain ⟨d', hd', i, hi, rfl, rfl⟩ := hc
   simp only [List.map_cons, List.map_nil, aop, Option.map_eq_some_iff, Prod.mk.injEq] at hop
   obtain ⟨r, hr, rfl, rfl⟩ := hop
   exact ORun.val h (kr hd hd' hi (Cu h ho) (Cu h ho2) hr)
  case string =>
   simp only [Option.some.injEq, Prod.mk.injEq] at hc
   obtain ⟨rfl, rfl⟩ := hc
   simp only [List.map_cons, List.map_nil, aop, Option.map_eq_some_iff, Prod.mk.injEq] at hop
   obtain ⟨r, hr, rfl, rfl⟩ := hop
   exact ORun.val h (iU hd (Cu h ho) (Cu h ho2) hr)
 case extract x i =>
  simp only [cOp, Option.bind_eq_some_iff, Option.some.injEq, Prod.mk.injEq] at hc
  obtain ⟨o, ho, rfl, rfl⟩ := hc
  simp only [List.map_cons, List.map_nil, aop, Option.map_eq_some_iff, Prod.mk.injEq] at hop
  obtain ⟨r, hr, rfl, rfl⟩ := hop
  exact ORun.val h (iT (Cu h ho) hr)
 case build t ps =>
  simp only [cOp, Option.bind_eq_some_iff, Option.some.injEq, Prod.mk.injEq] at hc
  obtain ⟨d, hd, i, hi, z, hz, pl, hpl, qs, hqs, os, hos, rfl, rfl⟩ := hc
  simp only [aop, Option.bind_eq_some_iff, Option.map_eq_some_iff, Prod.mk.injEq] at hop
  obtain ⟨zs, hzs, cs, hcs, rfl, rfl⟩ := hop
  have hr := TQ h hos
  obtain ⟨e1, e2⟩ := V3 (a := a) (T := T) hqs hr hzs
  refine ORun.val h (Xv hd hi hz hpl (qs := zs) ?_ ?_ hcs)
  ·simpa using e1
  ·intro k i v off size x hk hz
   refine e2 k i v off size x ?_ hz
   simpa using hk
 case buildSlice t n ps =>
  simp only [cOp, Option.bind_eq_some_iff] at hc
  obtain ⟨d, hd, e, he, i, hi, z, hz, os, hos, hc⟩ := hc
  split at hc
  case isFalse => cases hc
  rename_i hcond
  cases hc
  simp only [Bool.and_eq_true, beq_iff_eq, decide_eq_true_eq] at hcond
  obtain ⟨⟨h1, h2⟩, h3⟩ := hcond
  have hd' : d = .slice e := by cases d <;> simp [slD] at he; subst he; rfl
  simp only [aop] at hop
  have hr := TQ h hos
  have hl : (xs.map (ev T)).length = n := by rw [← hr.length]; simp [h2]
  have hb := kp h (hd' ▸ hd) hi hz hr hop (by rw [hl]; exact h3)
  rw [hl] at hb
  have e : (ps.map fun (i, x) => (i, a.eval x)) = (K7 0 ((ps.toList.map (·.2)).map a.eval)).toArray := by
   have := Z0 a.eval 0 ps.toList h1
   apply Array.toList_inj.1
   simp only [Array.toList_map, List.map_map]
   exact this
  refine ORun.eff ?_
  show ∃ v w' io' B', (Instr.buildSlice t n (ps.map fun (i, x) => (i, a.eval x))).run P w = _ ∧ _
  rw [e]; exact hb
 case makeFunc fn first cap =>
  cases fn <;> try (simp [cOp] at hc; done)
  rename_i f
  simp only [cOp] at hc
  split at hc
  case isFalse => cases hc
  rename_i hfe
  simp only [Option.bind_eq_some_iff, Option.some.injEq, Prod.mk.injEq] at hc
  obtain ⟨os, hos, rfl, rfl⟩ := hc
  simp only [aop, Option.some.injEq, Prod.mk.injEq] at hop
  obtain ⟨rfl, rfl⟩ := hop
  have hf0 : first = #[] := by simpa using hfe
  subst hf0
  refine ORun.val h ⟨.func (.func f) #[] (cap.map a.eval), fun w => by simp [Instr.makeFunc], ?_⟩
  rw [R]
  exact ⟨(cap.toList.map a.eval), by rw [← List.map_toArray], TQ h hos⟩
 case slice t x lo hi mx =>
  simp only [cOp, Option.bind_eq_some_iff] at hc
  obtain ⟨d, hd, o, ho, l, hl, hh, hhi, m, hm, hc⟩ := hc
  have hx := Cu h ho
  cases d <;> try (simp at hc; done)
  case slice e =>
   simp only [Option.bind_eq_some_iff] at hc
   obtain ⟨i, hi', hc⟩ := hc
   split at hc
   case isTrue => cases hc
   rename_i hcond
   cases hc
   simp only [List.map_cons, List.map_append, List.append_assoc, aop, Option.bind_eq_some_iff] at hop
   obtain ⟨bs, hbs, hop⟩ := hop
   obtain ⟨b1, r1, rfl, hb1, o1⟩ := Xw h hl hbs
   obtain ⟨b2, r2, rfl, hb2, o2⟩ := Xw h hhi hb1
   obtain ⟨b3, r3, rfl, hb3, o3⟩ := Xw h hm (rest := []) (bs := []) (by simpa using hb2)
   simp only [cK, Option.some.injEq] at hb3
   subst hb3
   simp only [Option.map_eq_some_iff, Prod.mk.injEq] at hop
   obtain ⟨r, hr, rfl, rfl⟩ := hop
   refine ORun.val h (er hd hi' rfl hx o1 o2 o3 ?_ ?_ hr)
   ·intro hm3
    have e3 : mx.isSome = true := by cases mx <;> cases b3 <;> simp_all [au]
    have e2 : hi.isSome = true := by
     cases hi
     ·rw [e3] at hcond; simp at hcond
     ·rfl
    cases hi <;> cases b2 <;> simp_all [au]
   ·intro hz
    simp only [Bool.and_eq_true] at hz
    obtain ⟨⟨z1, z2⟩, z3⟩ := hz
    refine ⟨by cases lo <;> simp_all, ?_, ?_⟩
    ·unfold Zz at z2
     split at z2
     ·rename_i kk; exact ⟨kk, rfl⟩
     ·cases z2
    ·unfold Zz at z3
     split at z3
     ·rename_i kk; exact ⟨kk, rfl⟩
     ·cases z3
  case string =>
   dsimp only at hc
   split at hc
   case isTrue => cases hc
   rename_i hmx
   have hmx : mx = none := by cases mx <;> simp at hmx; rfl
   subst hmx
   cases hc
   simp only [List.map_cons, List.map_append, List.append_assoc, aop, Option.bind_eq_some_iff] at hop
   obtain ⟨bs, hbs, hop⟩ := hop
   obtain ⟨b1, r1, rfl, hb1, o1⟩ := Xw h hl hbs
   obtain ⟨b2, r2, rfl, hb2, o2⟩ := Xw h hhi (rest := []) (bs := []) (by simpa using hb1)
   simp only [cK, Option.some.injEq] at hb2
   subst hb2
   simp only [Option.map_eq_some_iff, Prod.mk.injEq] at hop
   obtain ⟨r, hr, rfl, rfl⟩ := hop
   exact ORun.val h (cF hd hx o1 o2 hr)
 case call c =>
  obtain ⟨callee, args, argTypes⟩ := c
  cases callee
  case invoke => simp [cOp] at hc
  case value f =>
   exfalso
   cases f <;> simp only [cOp] at hc
   case func f =>
    split at hc
    case isFalse => cases hc
    simp only [Option.bind_eq_some_iff, Option.some.injEq, Prod.mk.injEq] at hc
    obtain ⟨_, _, rfl, _⟩ := hc
    cases hk
   all_goals
    simp only [Option.bind_eq_some_iff, Option.some.injEq, Prod.mk.injEq] at hc
    obtain ⟨_, _, _, _, rfl, _⟩ := hc
    cases hk
  case builtin b =>
   cases b <;> try (simp [cOp] at hc; done)
   case len =>
    simp only [cOp] at hc
    split at hc
    case isFalse => cases hc
    rename_i h1
    simp only [Option.bind_eq_some_iff] at hc
    obtain ⟨d, hd, hc⟩ := hc
    split at hc
    case isFalse => cases hc
    rename_i h2
    simp only [Option.bind_eq_some_iff, Option.some.injEq, Prod.mk.injEq] at hc
    obtain ⟨os, hos, rfl, rfl⟩ := hc
    simp only [Bool.and_eq_true, beq_iff_eq] at h1 h2
    have hr := TQ h hos
    obtain ⟨xs1, rfl⟩ : ∃ x, args = #[x] := Array.size_eq_one_iff.1 h1
    obtain ⟨t1, rfl⟩ : ∃ x, argTypes = #[x] := Array.size_eq_one_iff.1 h2.2
    simp only [List.map_cons, List.map_nil] at hr
    cases os with
    | nil => simp [cOs, Option.bind_eq_some_iff] at hos
    | cons o os =>
      have : os = [] := by
       have := hr.length
       simp at this; exact this
      subst this
      obtain ⟨u, hu, hr1⟩ := RL.one hr
      simp only [List.cons.injEq, and_true] at hu
      simp only [List.map_cons, List.map_nil, aop] at hop
      split at hop
      case isFalse => cases hop
      rename_i hstr
      simp only [Option.map_eq_some_iff, Prod.mk.injEq] at hop
      obtain ⟨r, hr2, rfl, rfl⟩ := hop
      have hd : P.underlying t1 = some d := hd
      have hs := k9 hr1 hr2
      obtain ⟨v, hv1, hv2⟩ := km (ty := type) hd h2.1 hr1 hr2 (fun s hs1 => by
       rw [hstr] at hs
       cases d <;> simp [ky] at hs ⊢ <;> (obtain ⟨_, _, _, e⟩ := hs; rw [hs1] at e; cases e)) (fun p n c hs1 => by
       rw [hstr] at hs
       rintro rfl
       simp [ky] at hs
       obtain ⟨_, e⟩ := hs; rw [hs1] at e; cases e)
      have hrun : ∀ w, (execOp a.eval ⟨dst, .call ⟨.builtin .len, #[xs1], #[t1]⟩, type, pos, after, guard⟩).run P w = .ok (.value v) w := fun w => by simp [execOp, resolve, invoke, builtin, hu, hv1]
      exact ⟨.value v, v, w, io, B, hrun w, .inl rfl, h, hv2, fun _ => ⟨rfl, rfl, rfl, rfl, hrun⟩⟩
   case append =>
    simp only [cOp, Option.bind_eq_some_iff] at hc
    obtain ⟨d, hd, e, he, d2, hd2, e2, he2, i, hi, z, hz, hc⟩ := hc
    split at hc
    case isFalse => cases hc
    rename_i hcond
    simp only [Option.bind_eq_some_iff, Option.some.injEq, Prod.mk.injEq] at hc
    obtain ⟨os, hos, rfl, rfl⟩ := hc
    simp only [Bool.and_eq_true, beq_iff_eq] at hcond
    obtain ⟨⟨h1, h2⟩, h3⟩ := hcond
    have hr := TR h hos
    obtain ⟨x1, x2, rfl⟩ : ∃ x y, args = #[x, y] := j0 h3
    obtain ⟨t1, t2, rfl⟩ : ∃ x y, argTypes = #[x, y] := j0 h2
    have hd' : d = .slice e := by cases d <;> simp [slD] at he; subst he; rfl
    have hd2' : d2 = .slice e2 := by cases d2 <;> simp [slD] at he2; subst he2; rfl
    subst hd' hd2'
    match os, hos, hr, hop with
    | [o1, o2], hos, hr, hop =>
      simp only [List.map_cons, List.map_nil] at hr
      obtain ⟨u, v, hu, hr1, hr2⟩ := RL.two hr
      simp only [List.cons.injEq, and_true] at hu
      simp only [List.map_cons, List.map_nil, aop] at hop
      obtain ⟨r, w', io', B', a1, a2, a3⟩ := bu (ty := type) h hd hd2 hi hz h1 hr1 hr2 hop
      refine ⟨.value r, r, w', io', B', ?_, .inl rfl, a2, a3, fun hb => by cases hb⟩
      have a1 : (Builtin.append_ #[t1, t2] type #[u, v]).run P w = .ok r w' := a1
      simp [execOp, resolve, invoke, builtin, hu.1, hu.2, a1]
    | [], hos, hr, hop => exact absurd hr.length (by simp)
    | [_], hos, hr, hop => exact absurd hr.length (by simp)
    | _ :: _ :: _ :: _, hos, hr, hop => exact absurd hr.length (by simp)
   case copy =>
    simp only [cOp, Option.bind_eq_some_iff] at hc
    obtain ⟨d, hd, e, he, d2, hd2, e2, he2, i, hi, hc⟩ := hc
    split at hc
    case isFalse => cases hc
    rename_i hcond
    simp only [Option.bind_eq_some_iff, Option.some.injEq, Prod.mk.injEq] at hc
    obtain ⟨os, hos, rfl, rfl⟩ := hc
    simp only [Bool.and_eq_true, beq_iff_eq] at hcond
    obtain ⟨⟨h1, h2⟩, h3⟩ := hcond
    have hr := TR h hos
    obtain ⟨x1, x2, rfl⟩ : ∃ x y, args = #[x, y] := j0 h3
    obtain ⟨t1, t2, rfl⟩ : ∃ x y, argTypes = #[x, y] := j0 h2
    have hd' : d = .slice e := by cases d <;> simp [slD] at he; subst he; rfl
    subst hd'
    match os, hos, hr, hop with
    | [o1, o2], hos, hr, hop =>
      simp only [List.map_cons, List.map_nil] at hr
      obtain ⟨u, v, hu, hr1, hr2⟩ := RL.two hr
      simp only [List.cons.injEq, and_true] at hu
      simp only [List.map_cons, List.map_nil, aop] at hop
      obtain ⟨r, w', io', B', a1, a2, a3⟩ := ib (tX := t2) (ty := type) h hd hi h1 hr1 hr2 hop
      refine ⟨.value r, r, w', io', B', ?_, .inl rfl, a2, a3, fun hb => by cases hb⟩
      have a1 : (Builtin.copy_ #[t1, t2] type #[u, v]).run P w = .ok r w' := a1
      simp [execOp, resolve, invoke, builtin, hu.1, hu.2, a1]
    | [], hos, hr, hop => exact absurd hr.length (by simp)
    | [_], hos, hr, hop => exact absurd hr.length (by simp)
    | _ :: _ :: _ :: _, hos, hr, hop => exact absurd hr.length (by simp)
   case min =>
    simp only [cOp] at hc
    split at hc
    case isFalse => cases hc
    rename_i h3
    simp only [Option.bind_eq_some_iff, Option.some.injEq, Prod.mk.injEq] at hc
    obtain ⟨os, hos, rfl, rfl⟩ := hc
    simp only [beq_iff_eq] at h3
    have hr := TQ h hos
    obtain ⟨x1, x2, rfl⟩ : ∃ x y, args = #[x, y] := j0 h3
    match os, hos, hr, hop with
    | [o1, o2], hos, hr, hop =>
      simp only [List.map_cons, List.map_nil] at hr
      obtain ⟨u, v, hu, hr1, hr2⟩ := RL.two hr
      simp only [List.cons.injEq, and_true] at hu
      simp only [List.map_cons, List.map_nil, aop, Option.map_eq_some_iff, Prod.mk.injEq] at hop
      obtain ⟨r, hr3, rfl, rfl⟩ := hop
      obtain ⟨z, a1, a2⟩ := cA (P := P) (mn := true) hr1 hr2 hr3
      have hrun : ∀ w, (execOp a.eval ⟨dst, .call ⟨.builtin .min, #[x1, x2], argTypes⟩, type, pos, after, guard⟩).run P w = .ok (.value z) w := fun w => by
       have a1' : (Builtin.min_ argTypes type #[u, v]).run P w = .ok z w := a1 argTypes w
       simp [execOp, resolve, invoke, builtin, hu.1, hu.2, a1']
      exact ⟨.value z, z, w, io, B, hrun w, .inl rfl, h, a2, fun _ => ⟨rfl, rfl, rfl, rfl, hrun⟩⟩
    | [], hos, hr, hop => exact absurd hr.length (by simp)
    | [_], hos, hr, hop => exact absurd hr.length (by simp)
    | _ :: _ :: _ :: _, hos, hr, hop => exact absurd hr.length (by simp)
   case max =>
    simp only [cOp] at hc
    split at hc
    case isFalse => cases hc
    rename_i h3
    simp only [Option.bind_eq_some_iff, Option.some.injEq, Prod.mk.injEq] at hc
    obtain ⟨os, hos, rfl, rfl⟩ := hc
    simp only [beq_iff_eq] at h3
    have hr := TQ h hos
    obtain ⟨x1, x2, rfl⟩ : ∃ x y, args = #[x, y] := j0 h3
    match os, hos, hr, hop with
    | [o1, o2], hos, hr, hop =>
      simp only [List.map_cons, List.map_nil] at hr
      obtain ⟨u, v, hu, hr1, hr2⟩ := RL.two hr
      simp only [List.cons.injEq, and_true] at hu
      simp only [List.map_cons, List.map_nil, aop, Option.map_eq_some_iff, Prod.mk.injEq] at hop
      obtain ⟨r, hr3, rfl, rfl⟩ := hop
      obtain ⟨z, a1, a2⟩ := cA (P := P) (mn := false) hr1 hr2 hr3
      have hrun : ∀ w, (execOp a.eval ⟨dst, .call ⟨.builtin .max, #[x1, x2], argTypes⟩, type, pos, after, guard⟩).run P w = .ok (.value z) w := fun w => by
       have a1' : (Builtin.max_ argTypes type #[u, v]).run P w = .ok z w := a1 argTypes w
       simp [execOp, resolve, invoke, builtin, hu.1, hu.2, a1']
      exact ⟨.value z, z, w, io, B, hrun w, .inl rfl, h, a2, fun _ => ⟨rfl, rfl, rfl, rfl, hrun⟩⟩
    | [], hos, hr, hop => exact absurd hr.length (by simp)
    | [_], hos, hr, hop => exact absurd hr.length (by simp)
    | _ :: _ :: _ :: _, hos, hr, hop => exact absurd hr.length (by simp)
 all_goals (simp [cOp] at hc; done)
end
structure AOper where
 dst : Option Nat
 k : AK
 xs : List Opd
 guard : Option (Nat × Bool)
abbrev ES := List (Nat × AV)
def get : ES → Nat → AV
 | [], _ => .bot
 | p :: E, i => if p.1 = i then p.2 else get E i
def toT (n : Nat) (E : ES) : List AV := (List.range n).map (get E)
def evE (E : ES) : Opd → AV
 | .t i => get E i
 | .c a => a
 | .f id => .fn id []
def Ec (E : ES) (dst : Option Nat) (av : AV) : ES := match dst with
 | some d => (d, av) :: E
 | none => E
def B9 : ES → ES
 | [] => []
 | p :: E => (p.1, I7 p.2) :: B9 E
theorem B6 : ∀ (E : ES) (i : Nat), get (B9 E) i = I7 (get E i)
 | [], i => by simp [B9, get, I7]
 | p :: E, i => by simp only [B9, get]; split <;> simp [B6 E i]
theorem Hv {n : Nat} {E : ES} {i : Nat} (h : i < n) : (toT n E).getD i .bot = get E i := by simp [toT, h]
theorem FT (n : Nat) (E : ES) : purgeL (toT n E) = toT n (B9 E) := by
 apply List.ext_getElem?
 intro i
 rw [RE]
 simp only [toT, List.getElem?_map]
 cases h : (List.range n)[i]? with
 | none => rfl
 | some j => simp [B6]
theorem WX (n : Nat) (E : ES) (dst : Option Nat) (av : AV) : ki (toT n E) dst av = toT n (Ec E dst av) := by
 cases dst with
 | none => rfl
 | some d =>
   simp only [ki, Ec]
   apply List.ext_getElem?
   intro i
   rw [List.getElem?_set]
   by_cases hd : d = i
   ·subst hd
    simp only [if_true, toT, List.length_map, List.length_range]
    by_cases hl : d < n
    ·rw [if_pos hl]; simp [hl, get]
    ·rw [if_neg hl]; simp [hl]
   ·rw [if_neg hd]
    simp only [toT, List.getElem?_map]
    cases h : (List.range n)[i]? with
    | none => rfl
    | some j =>
      have : j = i := by
       rw [List.getElem?_range] at h
       ·simpa using h.symm
       ·rcases Nat.lt_or_ge i n with h1 | h1
        ·exact h1
        ·rw [List.getElem?_eq_none (by simpa using h1)] at h; cases h
      subst this
      simp [get, hd]
theorem TC {n : Nat} {E : ES} {s : Nat} {x : AV} (h : get E s = x) : toT n (Ec E (some s) x) = toT n E := by
 apply List.ext_getElem?
 intro i
 simp only [toT, List.getElem?_map, Ec]
 cases hi : (List.range n)[i]? with
 | none => rfl
 | some j =>
   simp only [Option.map_some, Option.some.injEq, get]
   split
   ·rename_i e; subst e; exact h.symm
   ·rfl
def TD {α : Type} (o : Option α) (K : α → Prop) : Prop := ∃ x, o = some x ∧ K x
def lA (P : Program) (f : Nat) (ts : List AV) (C : AV → List AV → Prop) : Prop := ∃ post, SoundSet P f ts post ∧ ∀ r ups, post r ups → C r ups
def JC (P : Program) (f : Nat) (ms : List Bool) (avs : List AV) (E : ES) (H : AH) (dst : Option Nat) (K : ES → AH → Prop) : Prop :=
 TD (WW H avs ms) fun ks => ks.Nodup ∧ TD (MO H (AG ks H) ks.isEmpty avs ms) fun ts => lA P f ts fun r ups =>
  TD (RF avs ms ups (Hu r H.length).2.2) fun p =>
   K (Ec (if ks.isEmpty then E else B9 E) dst (Hu r H.length).1) (B8 ((Hu r H.length).2.1 ++ p.1) (SN (p.2 - H.length) (AG ks (if ks.isEmpty then H else BE H))))
def mdP : List Bool → List AV → List Bool
 | [], as => as.map fun _ => false
 | ms, _ => ms
def PU (c x y : AV) (K : AV → Prop) : Prop := ∃ b, c = .v (.bool b) ∧ (b = true → K x) ∧ (b = false → K y)
def az (K : ES → AH → Prop) (E : ES) (dst : Option Nat) (H : AH) (ng : Bool) (v : AV) : Prop :=
 ∃ n, k8 v = some n ∧ (n ≠ 0 → K (Ec E dst (.v (.bool ng))) H) ∧ (n = 0 → K (Ec E dst (.v (.bool ng))) H ∧ K (Ec E dst (.v (.bool (!ng)))) H)
def Ho (P : Program) (md : Nat → List Bool) (o : AOper) (E : ES) (H : AH) (K : ES → AH → Prop) : Prop :=
 match o.k, o.xs.map (evE E) with
 | .pick, [c, x, y] => PU c x y fun av => K (Ec E o.dst av) H
 | .call f _, avs => JC P f (mdP (md f) avs) avs E H o.dst K
 | .callv _, .fn f cs :: avs => cL P f = true ∧ JC P f (mdP (md f) (avs ++ cs)) (avs ++ cs) E H o.dst K
 | .callv _, _ => False
 | .nilq ng, [x] => az K E o.dst H ng x
 | k, avs => TD (aop k avs H) fun r => K (Ec E o.dst r.1) r.2
def Nu (P : Program) (md : Nat → List Bool) (o : AOper) (E : ES) (H : AH) (K : ES → AH → Prop) : Prop :=
 match o.guard with
 | none => Ho P md o E H K
 | some (s, want) => match get E s with
   | .v (.bool b) => (b = want → Ho P md o (Ec E (some s) (.v (.bool want))) H K) ∧ (b = !want → K (Ec (Ec E (some s) (.v (.bool (!want)))) o.dst (.v undef)) H)
   | .v (.tuple _) => K (Ec E o.dst (.v undef)) H
   | _ => False
def Hw (P : Program) (md : Nat → List Bool) : List AOper → (ES → AH → Prop) → ES → AH → Prop
 | [], K, E, H => K E H
 | o :: os, K, E, H => Nu P md o E H (Hw P md os K)
def a8 (n : Nat) : Operand → Bool
 | .tmp t => decide (t < n)
 | _ => true
def Xx (n : Nat) : Opd → Bool
 | .t t => decide (t < n)
 | _ => true
def bA : Op → Bool
 | .select .. => true
 | _ => false
def fA (n : Nat) (o : Oper) (xs : List Opd) : Bool :=
 o.op.operands.all (a8 n) && xs.all (Xx n) && !bA o.op && (match o.dst with | some d => decide (d < n) | none => true)
def F3 (P : Program) (n : Nat) (ops : Array Oper) (o : Oper) : Option AOper :=
 (cOp P o []).bind fun kx =>
  if fA n o kx.2 = true then
   match o.guard with
   | none => some ⟨o.dst, kx.1, kx.2, none⟩
   | some (j, want) => ((ops[j]?).bind (·.dst)).bind fun s => if s < n then some ⟨o.dst, kx.1, kx.2, some (s, want)⟩ else none
  else none
def PV (P : Program) (n : Nat) (ops : Array Oper) : List Oper → Option (List AOper)
 | [] => some []
 | o :: os => (F3 P n ops o).bind fun a => (PV P n ops os).bind fun as => some (a :: as)
structure RelE (n : Nat) (gh : Array Value) (g : Env) (E : ES) (H : AH) (io : Nat → Option (Nat × Nat)) (B : Nat → List Nat) (a : Act) (w : World) : Prop where
 size : a.tmps.size = n
 rel : Rel g (toT (n + gh.size) E) H io B (a.tmps ++ gh) w
 defers : a.defers = []
section
variable {P : Program} {md : Nat → List Bool} {g : Env} {n : Nat} {gh : Array Value} {E : ES} {H : AH} {io : Nat → Option (Nat × Nat)} {B : Nat → List Nat} {w : World} {a : Act}
def C8 (a : Act) (gh : Array Value) : Act := { a with tmps := a.tmps ++ gh }
theorem RH (hs : a.tmps.size = n) {x : Operand} (hx : a8 n x = true) : (C8 a gh).eval x = a.eval x := by
 cases x <;> simp only [Act.eval, C8]
 rename_i t
 simp only [a8, decide_eq_true_eq] at hx
 have : t < a.tmps.size := by rw [hs]; exact hx
 simp [Array.getD, this, Array.getElem_append_left, Nat.lt_of_lt_of_le this (Nat.le_add_right _ _)]
theorem RelE.put (h : RelE n gh g E H io B a w) {dst : Option Nat} (hd : ∀ d, dst = some d → d < n) {av : AV} {u : Value} (hr : R (ctx g H io B w) av [] u) : RelE n gh g (Ec E dst av) H io B (a.put dst u) w := by
 have h1 := h.rel.put dst hr
 rw [WX] at h1
 refine ⟨by cases dst <;> simp [Act.put, h.size], ?_, by cases dst <;> simp [Act.put, h.defers]⟩
 cases dst with
 | none => exact h1
 | some d =>
   have := hd d rfl
   have hsz := h.size
   have e : (a.tmps ++ gh).setIfInBounds d u = a.tmps.setIfInBounds d u ++ gh := by
    apply Array.ext_getElem?
    intro i
    simp only [Array.getElem?_setIfInBounds, Array.getElem?_append, Array.size_setIfInBounds, Array.size_append]
    by_cases hi : d = i
    ·subst hi; simp [hsz, this]; omega
    ·simp [hi]
   simp only [eR] at h1
   rw [e] at h1
   exact h1
end
section
variable {P : Program} {md : Nat → List Bool} {g : Env} {n : Nat} {gh : Array Value} {E : ES} {H : AH} {io : Nat → Option (Nat × Nat)} {B : Nat → List Nat} {w : World} {a : Act}
theorem TT {ρ : Operand → Value} {dst : Option Nat} {x : Operand} {args : Array Operand} {ats : Array TypeId} {ty : TypeId} {pos : String} {af : Array Edge} {gd : Option (Nat × Bool)} {f : Nat} {us : Array Value} (hf : ρ x = .func (.func f) #[] us) (ok : cL P f = true) :
  (execOp ρ ⟨dst, .call ⟨.value x, args, ats⟩, ty, pos, af, gd⟩).run P w = .ok (.enter f (args.map ρ ++ us)) w := by
 unfold cL at ok
 split at ok
 case h_2 => cases ok
 rename_i fn hfn
 simp only [Bool.and_eq_true, Bool.not_eq_true'] at ok
 obtain ⟨h1, h2⟩ := ok
 have h1' : ¬ fn.name = "runtime.NumGoroutine" := by simpa using h1
 have h3 : ¬ fn.body = none := by cases hb : fn.body <;> simp_all
 simp [execOp, resolve, Deferred.ofValue, hf, invoke, callFunc, hfn, h1', h3]
theorem Z1 {dst : Option Nat} {op : Op} {ty : TypeId} {pos : String} {af : Array Edge} {gd : Option (Nat × Bool)} {ms : List Bool} {xs : List Opd} (h : cOp P ⟨dst, op, ty, pos, af, gd⟩ ms = some (.pick, xs)) :
  ∃ c x y c' x' y', op = .pick c x y ∧ cO 1 c = some c' ∧ cO 1 x = some x' ∧ cO 1 y = some y' ∧ xs = [c', x', y'] := by
 cases op <;> (try (simp [cOp, Option.bind_eq_some_iff] at h; done))
 case pick c x y =>
  simp only [cOp, Option.bind_eq_some_iff, Option.some.injEq, Prod.mk.injEq, true_and] at h
  obtain ⟨c', h1, x', h2, y', h3, rfl⟩ := h
  exact ⟨c, x, y, c', x', y', rfl, h1, h2, h3, rfl⟩
 case convert s t x =>
  exfalso
  simp only [cOp, Option.bind_eq_some_iff, Option.some.injEq, Prod.mk.injEq] at h
  obtain ⟨_, _, _, _, k, hk, _, _, rfl, _⟩ := h
  simp at hk
 case binOp op t x y yt =>
  simp only [cOp, Option.bind_eq_some_iff] at h
  obtain ⟨d, _, h⟩ := h
  split at h <;> simp [Option.bind_eq_some_iff] at h
 case indexAddr t x y =>
  simp only [cOp, Option.bind_eq_some_iff] at h
  obtain ⟨d, _, h⟩ := h
  split at h <;> simp [Option.bind_eq_some_iff] at h
 case makeFunc fn first cap => cases fn <;> simp [cOp, Option.bind_eq_some_iff] at h
 case slice t x lo hi mx =>
  simp only [cOp, Option.bind_eq_some_iff] at h
  obtain ⟨d, _, _, _, _, _, _, _, _, _, h⟩ := h
  cases d <;> simp [Option.bind_eq_some_iff] at h
 case index t x y =>
  simp only [cOp, Option.bind_eq_some_iff] at h
  obtain ⟨d, _, _, _, _, _, h⟩ := h
  cases d <;> simp [Option.bind_eq_some_iff] at h
 case call c =>
  obtain ⟨callee, args, ats⟩ := c
  cases callee
  case invoke => simp [cOp] at h
  case builtin b => cases b <;> simp [cOp, Option.bind_eq_some_iff] at h
  case value x => cases x <;> simp [cOp, Option.bind_eq_some_iff] at h
theorem fB {dst : Option Nat} {op : Op} {ty : TypeId} {pos : String} {af : Array Edge} {gd : Option (Nat × Bool)} {ms ms' : List Bool} {f : Nat} {xs : List Opd} (h : cOp P ⟨dst, op, ty, pos, af, gd⟩ ms = some (.call f ms', xs)) :
  ∃ args ats, op = .call ⟨.value (.func f), args, ats⟩ ∧ cL P f = true ∧ eU P args.toList ats.toList = some xs := by
 cases op <;> (try (simp [cOp, Option.bind_eq_some_iff] at h; done))
 case convert s t x =>
  exfalso
  simp only [cOp, Option.bind_eq_some_iff, Option.some.injEq, Prod.mk.injEq] at h
  obtain ⟨_, _, _, _, k, hk, _, _, rfl, _⟩ := h
  simp at hk
 case binOp op t x y yt =>
  simp only [cOp, Option.bind_eq_some_iff] at h
  obtain ⟨d, _, h⟩ := h
  split at h <;> simp [Option.bind_eq_some_iff] at h
 case indexAddr t x y =>
  simp only [cOp, Option.bind_eq_some_iff] at h
  obtain ⟨d, _, h⟩ := h
  split at h <;> simp [Option.bind_eq_some_iff] at h
 case makeFunc fn first cap => cases fn <;> simp [cOp, Option.bind_eq_some_iff] at h
 case slice t x lo hi mx =>
  simp only [cOp, Option.bind_eq_some_iff] at h
  obtain ⟨d, _, _, _, _, _, _, _, _, _, h⟩ := h
  cases d <;> simp [Option.bind_eq_some_iff] at h
 case index t x y =>
  simp only [cOp, Option.bind_eq_some_iff] at h
  obtain ⟨d, _, _, _, _, _, h⟩ := h
  cases d <;> simp [Option.bind_eq_some_iff] at h
 case call c =>
  obtain ⟨callee, args, ats⟩ := c
  cases callee
  case invoke => simp [cOp] at h
  case builtin b => cases b <;> simp [cOp, Option.bind_eq_some_iff] at h
  case value x =>
   cases x <;> (try (simp [cOp, Option.bind_eq_some_iff] at h; done))
   rename_i f'
   simp only [cOp] at h
   split at h
   case isFalse => cases h
   rename_i hok
   simp only [Option.bind_eq_some_iff, Option.some.injEq, Prod.mk.injEq, AK.call.injEq] at h
   obtain ⟨ys, h1, ⟨rfl, _⟩, rfl⟩ := h
   exact ⟨args, ats, rfl, hok, h1⟩
theorem cN {dst : Option Nat} {op : Op} {ty : TypeId} {pos : String} {af : Array Edge} {gd : Option (Nat × Bool)} {ms ms' : List Bool} {xs : List Opd} (h : cOp P ⟨dst, op, ty, pos, af, gd⟩ ms = some (.callv ms', xs)) :
  ∃ x args ats x' ys, op = .call ⟨.value x, args, ats⟩ ∧ cO 1 x = some x' ∧ eU P args.toList ats.toList = some ys ∧ xs = x' :: ys := by
 cases op <;> (try (simp [cOp, Option.bind_eq_some_iff] at h; done))
 case convert s t x =>
  exfalso
  simp only [cOp, Option.bind_eq_some_iff, Option.some.injEq, Prod.mk.injEq] at h
  obtain ⟨_, _, _, _, k, hk, _, _, rfl, _⟩ := h
  simp at hk
 case binOp op t x y yt =>
  simp only [cOp, Option.bind_eq_some_iff] at h
  obtain ⟨d, _, h⟩ := h
  split at h <;> simp [Option.bind_eq_some_iff] at h
 case indexAddr t x y =>
  simp only [cOp, Option.bind_eq_some_iff] at h
  obtain ⟨d, _, h⟩ := h
  split at h <;> simp [Option.bind_eq_some_iff] at h
 case makeFunc fn first cap => cases fn <;> simp [cOp, Option.bind_eq_some_iff] at h
 case slice t x lo hi mx =>
  simp only [cOp, Option.bind_eq_some_iff] at h
  obtain ⟨d, _, _, _, _, _, _, _, _, _, h⟩ := h
  cases d <;> simp [Option.bind_eq_some_iff] at h
 case index t x y =>
  simp only [cOp, Option.bind_eq_some_iff] at h
  obtain ⟨d, _, _, _, _, _, h⟩ := h
  cases d <;> simp [Option.bind_eq_some_iff] at h
 case call c =>
  obtain ⟨callee, args, ats⟩ := c
  cases callee
  case invoke => simp [cOp] at h
  case builtin b => cases b <;> simp [cOp, Option.bind_eq_some_iff] at h
  case value x =>
   cases x
   case func f' =>
    simp only [cOp] at h
    split at h
    case isFalse => cases h
    simp [Option.bind_eq_some_iff] at h
   all_goals
    simp only [cOp, Option.bind_eq_some_iff, Option.some.injEq, Prod.mk.injEq] at h
    obtain ⟨x', h1, ys, h2, _, rfl⟩ := h
    exact ⟨_, args, ats, x', ys, rfl, h1, h2, rfl⟩
theorem fC {dst : Option Nat} {op : Op} {ty : TypeId} {pos : String} {af : Array Edge} {gd : Option (Nat × Bool)} {ms : List Bool} {ng : Bool} {xs : List Opd} (h : cOp P ⟨dst, op, ty, pos, af, gd⟩ ms = some (.nilq ng, xs)) :
  ∃ t e x yt x', op = .binOp (if ng then .neq else .eql) t x (.const (.slice none 0 0)) yt ∧ P.underlying t = some (.slice e) ∧ cO 1 x = some x' ∧ xs = [x'] := by
 cases op <;> (try (simp [cOp, Option.bind_eq_some_iff] at h; done))
 case convert s t x =>
  exfalso
  simp only [cOp, Option.bind_eq_some_iff, Option.some.injEq, Prod.mk.injEq] at h
  obtain ⟨_, _, _, _, k, hk, _, _, rfl, _⟩ := h
  simp at hk
 case binOp op t x y yt =>
  simp only [cOp, Option.bind_eq_some_iff] at h
  obtain ⟨d, hd, h⟩ := h
  split at h
  ·rename_i ng' hq
   simp only [Option.bind_eq_some_iff, Option.some.injEq, Prod.mk.injEq, AK.nilq.injEq] at h
   obtain ⟨x', h1, rfl, rfl⟩ := h
   unfold oQ at hq
   split at hq
   ·split at hq
    ·cases hq; exact ⟨t, _, x, yt, x', rfl, hd, h1, rfl⟩
    ·cases hq; exact ⟨t, _, x, yt, x', rfl, hd, h1, rfl⟩
    ·cases hq
   ·cases hq
  ·simp [Option.bind_eq_some_iff] at h
 case indexAddr t x y =>
  simp only [cOp, Option.bind_eq_some_iff] at h
  obtain ⟨d, _, h⟩ := h
  split at h <;> simp [Option.bind_eq_some_iff] at h
 case makeFunc fn first cap => cases fn <;> simp [cOp, Option.bind_eq_some_iff] at h
 case slice t x lo hi mx =>
  simp only [cOp, Option.bind_eq_some_iff] at h
  obtain ⟨d, _, _, _, _, _, _, _, _, _, h⟩ := h
  cases d <;> simp [Option.bind_eq_some_iff] at h
 case index t x y =>
  simp only [cOp, Option.bind_eq_some_iff] at h
  obtain ⟨d, _, _, _, _, _, h⟩ := h
  cases d <;> simp [Option.bind_eq_some_iff] at h
 case call c =>
  obtain ⟨callee, args, ats⟩ := c
  cases callee
  case invoke => simp [cOp] at h
  case builtin b => cases b <;> simp [cOp, Option.bind_eq_some_iff] at h
  case value x => cases x <;> simp [cOp, Option.bind_eq_some_iff] at h
theorem ig {C : Ctx} {x : AV} {u : Value} {n : Nat} (hx : R C x [] u) (hl : k8 x = some n) : ∃ a c, u = .slice a n c ∧ (n ≠ 0 → a.isNone = false) := by
 cases x <;> simp only [k8, Option.some.injEq, reduceCtorEq] at hl <;> subst hl <;> rw [R] at hx
 ·obtain ⟨_, a, c, hu, _, h⟩ := hx
  refine ⟨a, c, hu, fun hn => ?_⟩
  rcases h with h | ⟨b, p, us, rfl, _⟩
  ·simp [h] at hn
  ·rfl
 ·obtain ⟨_, _, a, c, hu, hc, h⟩ := hx
  refine ⟨a, c, hu, fun hn => ?_⟩
  rcases h with h | ⟨_, b, p, _, rfl, _⟩
  ·omega
  ·rfl
 ·obtain ⟨_, a, c, hu, hc, h⟩ := hx
  refine ⟨a, c, hu, fun hn => ?_⟩
  rcases h with h | ⟨_, b, p, _, rfl, _⟩
  ·omega
  ·rfl
 ·obtain ⟨a, c, hu, hc, h⟩ := hx
  refine ⟨a, c, hu, fun hn => ?_⟩
  rcases h with h | ⟨_, b, p, us, S', hS, _⟩
  ·omega
  ·cases hS
theorem TU {x : Opd} (h : Xx n x = true) : ev (toT (n + gh.size) E) x = evE E x := by
 cases x <;> simp only [ev, evE]
 simp only [Xx, decide_eq_true_eq] at h
 exact Hv (Nat.lt_of_lt_of_le h (Nat.le_add_right _ _))
theorem Yw (h : RelE n gh g E H io B a w) (hg : ∀ x, g.forb x → x < g.w0.heap.size) {dst : Option Nat} (hd : ∀ d, dst = some d → d < n) {f : Nat} {ms : List Bool} {avs : List AV} {us : List Value} (hr : RL (ctx g H io B w) avs [] us)
  {K : ES → AH → Prop} (hk : JC P f ms avs E H dst K) {next : Act → World → Prop} (hn : ∀ E' H' io' B' a' w', K E' H' → RelE n gh g E' H' io' B' a' w' → (∃ v, a' = a.put dst v) → next a' w') :
  Calls P f us.toArray w fun e w' => ∃ v, e = .returned v ∧ next (a.put dst v) w' := by
 obtain ⟨ks, hks, hnd, ts, hts, post, hs, hC⟩ := hk
 refine Calls.mono (iY h.rel hg hr hks hnd hts hs (C := fun r ps k' => K (Ec (if ks.isEmpty then E else B9 E) dst (Hu r H.length).1) (B8 ((Hu r H.length).2.1 ++ ps) (SN (k' - H.length) (AG ks (if ks.isEmpty then H else BE H))))) (fun r ups hp => by
  obtain ⟨⟨ps, k'⟩, hb, hK⟩ := hC r ups hp
  exact ⟨ps, k', hb, hK⟩)) ?_
 rintro e w' ⟨r, ps, k', v, io', B', hK, rfl, h1, h2⟩
 refine ⟨v, rfl, hn _ _ io' B' _ w' hK ?_ ⟨v, rfl⟩⟩
 refine RelE.put (a := a) ⟨h.size, ?_, h.defers⟩ hd h2
 cases hke : ks.isEmpty with
 | true => simpa [hke] using h1
 | false => simp only [hke, Bool.false_eq_true, if_false] at h1 ⊢; rw [← FT]; exact h1
theorem WY (h : RelE n gh g E H io B a w) (hg : ∀ x, g.forb x → x < g.w0.heap.size) {ops : Array Oper} {o : Oper} {ao : AOper} (hc : F3 P n ops o = some ao) {K : ES → AH → Prop} (hk : Ho P md ao E H K)
  {next : Act → World → Prop} {Q : Exit → Act → World → Prop} (hn : ∀ E' H' io' B' a' w', K E' H' → RelE n gh g E' H' io' B' a' w' → (∃ v, a' = a.put o.dst v) → next a' w') : o.wp P a w next Q := by
 simp only [F3, Option.bind_eq_some_iff] at hc
 obtain ⟨⟨k, xs⟩, hop, hc⟩ := hc
 split at hc
 case isFalse => cases hc
 rename_i hcond
 simp only [fA, Bool.and_eq_true, Bool.not_eq_true'] at hcond
 obtain ⟨⟨⟨c1, c2⟩, c3⟩, c4⟩ := hcond
 obtain ⟨e1, e2, e3⟩ : ao.dst = o.dst ∧ ao.k = k ∧ ao.xs = xs := by
  split at hc
  ·cases hc; exact ⟨rfl, rfl, rfl⟩
  ·simp only [Option.bind_eq_some_iff] at hc
   obtain ⟨s, _, hc⟩ := hc
   split at hc
   ·cases hc; exact ⟨rfl, rfl, rfl⟩
   ·cases hc
 have hdst : ∀ d, o.dst = some d → d < n := by
  intro d hd
  rw [hd] at c4; simpa using c4
 have hxs : xs.map (ev (toT (n + gh.size) E)) = xs.map (evE E) := List.map_congr_left fun x hx => TU (List.all_eq_true.1 c2 x hx)
 have hrel : Rel g (toT (n + gh.size) E) H io B (C8 a gh).tmps w := h.rel
 have heval : execOp a.eval o = execOp (C8 a gh).eval o := execOp_congr o (by intro cs b he; rw [he] at c3; simp [bA] at c3) fun x hx => (RH h.size (Array.all_eq_true_iff_forall_mem.1 c1 x hx)).symm
 unfold Ho at hk
 rw [e1, e2, e3] at hk
 unfold Oper.wp
 rw [heval]
 have plain : cM k = false → TD (aop k (xs.map (evE E)) H) (fun r => K (Ec E o.dst r.1) r.2) → o.upon P a next Q ((execOp (C8 a gh).eval o).run P w) := by
  rintro hok ⟨⟨av, H'⟩, haop, hK⟩
  rw [← hxs] at haop
  obtain ⟨nx, v, w', io', B', r1, r2, r3, r4, _⟩ := gM hrel hop hok haop
  rw [r1]
  have hn' := hn _ _ io' B' _ w' hK (RelE.put (a := a) ⟨h.size, r3, h.defers⟩ hdst r4) ⟨_, rfl⟩
  rcases r2 with rfl | ⟨rfl, rfl⟩
  ·exact hn'
  ·exact hn'
 have call : ∀ (f : Nat) (us : List Value) (avs : List AV), RL (ctx g H io B w) avs [] us → JC P f (mdP (md f) avs) avs E H o.dst K → (execOp (C8 a gh).eval o).run P w = .ok (.enter f us.toArray) w → o.upon P a next Q ((execOp (C8 a gh).eval o).run P w) := by
  intro f us avs hr hcn hrun
  rw [hrun, Oper.upon_enter]
  refine Calls.mono (Yw h hg hdst hr hcn hn) ?_
  rintro e w' ⟨v, rfl, hv⟩
  exact hv
 cases k
 case pick =>
  obtain ⟨dst, op, type, pos, after, guard⟩ := o
  obtain ⟨c, x, y, c', x', y', rfl, h1, h2, h3, rfl⟩ := Z1 hop
  simp only [List.map_cons, List.map_nil] at hk hxs
  obtain ⟨b, hb, k1, k2⟩ := hk
  simp only [List.cons.injEq, and_true] at hxs
  have r1 := Cu hrel h1
  have r2 := Cu hrel h2
  have r3 := Cu hrel h3
  rw [hxs.1, hb, R] at r1
  have hrun : (execOp (C8 a gh).eval ⟨dst, .pick c x y, type, pos, after, guard⟩).run P w = .ok (.value (if b then (C8 a gh).eval x else (C8 a gh).eval y)) w := by
   simp [execOp, r1.2, asBool]
  rw [hrun, Oper.upon_value]
  cases b with
  | true => exact hn _ _ io B _ w (k1 rfl) (h.put hdst (by rw [hxs.2.1] at r2; exact r2)) ⟨_, rfl⟩
  | false => exact hn _ _ io B _ w (k2 rfl) (h.put hdst (by rw [hxs.2.2] at r3; exact r3)) ⟨_, rfl⟩
 case nilq ng =>
  obtain ⟨dst, op, type, pos, after, guard⟩ := o
  obtain ⟨t, e, x, yt, x', rfl, hu, h1, rfl⟩ := fC hop
  simp only [List.map_cons, List.map_nil] at hk hxs
  simp only [List.cons.injEq, and_true] at hxs
  obtain ⟨len, hlen, k1, k2⟩ := hk
  have r1 := Cu hrel h1
  rw [hxs] at r1
  obtain ⟨ad, c, hv, hn0⟩ := ig r1 hlen
  have hrun : (execOp (C8 a gh).eval ⟨dst, .binOp (if ng then .neq else .eql) t x (.const (.slice none 0 0)) yt, type, pos, after, guard⟩).run P w = .ok (.value (.bool (ad.isNone != ng))) w := by
   have eN : (C8 a gh).eval (.const (.slice none 0 0)) = .slice none 0 0 := rfl
   have e0 : ∀ bop : BinOp, (eqGuard bop t x (.const (.slice none 0 0)) (.slice ad len c) (.slice none 0 0)).run P w = .ok () w := fun bop => Vx _ _ (fun _ => by simp) (by simp)
   cases ng with
   | true =>
     have := run_neq_slice_nil_any (P := P) w t e ad len c 0 0 hu
     simp only [execOp, hv, eN, if_true]
     simp [e0, this]
   | false =>
     have := run_equal_slice_nil (P := P) w t e ad len c hu
     simp only [execOp, hv, eN, Bool.false_eq_true, if_false, binOp]
     simp [e0, this]
  rw [hrun, Oper.upon_value]
  by_cases hz : len = 0
  ·obtain ⟨k2, k3⟩ := k2 hz
   cases hnn : ad.isNone with
   | true => exact hn _ _ io B _ w k3 (by simpa using h.put hdst (av := .v (.bool (!ng))) (u := .bool (!ng)) (by rw [R]; exact ⟨rfl, rfl⟩)) ⟨_, rfl⟩
   | false => exact hn _ _ io B _ w k2 (by simpa using h.put hdst (av := .v (.bool ng)) (u := .bool ng) (by rw [R]; exact ⟨rfl, rfl⟩)) ⟨_, rfl⟩
  ·rw [hn0 hz]
   exact hn _ _ io B _ w (k1 hz) (by simpa using h.put hdst (av := .v (.bool ng)) (u := .bool ng) (by rw [R]; exact ⟨rfl, rfl⟩)) ⟨_, rfl⟩
 case call f ms =>
  obtain ⟨dst, op, type, pos, after, guard⟩ := o
  obtain ⟨args, ats, rfl, hok, h1⟩ := fB hop
  have hr := TR hrel h1
  rw [hxs] at hr
  exact call f _ _ hr hk (by
   have := TT (P := P) (w := w) (ρ := (C8 a gh).eval) (dst := dst) (x := .func f) (args := args) (ats := ats) (ty := type) (pos := pos) (af := after) (gd := guard) (us := #[]) rfl hok
   rw [this, ← List.map_toArray]; simp)
 case callv ms =>
  obtain ⟨dst, op, type, pos, after, guard⟩ := o
  obtain ⟨x, args, ats, x', ys, rfl, h1, h2, rfl⟩ := cN hop
  simp only [List.map_cons] at hk hxs
  simp only [List.cons.injEq] at hxs
  have r1 := Cu hrel h1
  have hr := TR hrel h2
  rw [hxs.1] at r1
  rw [hxs.2] at hr
  generalize evE E x' = xv at hk r1
  cases xv <;> (try (exact hk.elim))
  rename_i f cs
  obtain ⟨hok, hk⟩ := hk
  rw [R] at r1
  obtain ⟨us, hu, r1⟩ := r1
  exact call f _ _ (hr.append r1) hk (by
   have := TT (P := P) (w := w) (ρ := (C8 a gh).eval) (dst := dst) (x := x) (args := args) (ats := ats) (ty := type) (pos := pos) (af := after) (gd := guard) (us := us.toArray) hu hok
   rw [this]; simp)
 all_goals exact plain rfl hk
theorem Z2 (h : RelE n gh g E H io B a w) {ops : Array Oper} {o : Oper} {ao : AOper} (hc : F3 P n ops o = some ao) {K : ES → AH → Prop} (hk : Nu P md ao E H K) :
  (Region.wanted o (yielded ops a.tmps) = true ∧ ∃ E1, RelE n gh g E1 H io B a w ∧ Ho P md ao E1 H K) ∨
  (Region.wanted o (yielded ops a.tmps) = false ∧ ∃ E1, RelE n gh g E1 H io B (a.put o.dst undef) w ∧ K E1 H) := by
 have hao' := hc
 simp only [F3, Option.bind_eq_some_iff] at hao'
 obtain ⟨kx, hkx, hao'⟩ := hao'
 split at hao'
 case isFalse => cases hao'
 rename_i hok
 simp only [fA, Bool.and_eq_true] at hok
 have hdst : ∀ d, o.dst = some d → d < n := by
  intro d hd
  have := hok.2
  rw [hd] at this; simpa using this
 unfold Nu at hk
 split at hao'
 ·rename_i hgd
  cases hao'
  exact .inl ⟨by simp [Region.wanted, hgd], E, h, hk⟩
 ·rename_i j want hgd
  simp only [Option.bind_eq_some_iff] at hao'
  obtain ⟨s, hs, hao'⟩ := hao'
  split at hao'
  case isFalse => cases hao'
  rename_i hsn
  cases hao'
  simp only at hk
  obtain ⟨oj, hoj, hds⟩ := hs
  obtain ⟨u, hu, hr⟩ := h.rel.get s
  rw [Hv (Nat.lt_of_lt_of_le hsn (Nat.le_add_right _ _))] at hr
  have hsz := h.size
  have hlt : s < a.tmps.size := by rw [hsz]; exact hsn
  have hu' : a.tmps[s]? = some u := by
   rw [← hu]
   simp [Array.getD, hlt, Array.getElem_append_left, Nat.lt_of_lt_of_le hlt (Nat.le_add_right _ _)]
  split at hk
  ·rename_i b hb
   rw [hb, R] at hr
   obtain ⟨_, rfl⟩ := hr
   have hy : yielded ops a.tmps j = some b := by simp [yielded, hoj, hds, hu']
   by_cases hbw : b = want
   ·exact .inl ⟨by simp [Region.wanted, hgd, hy, hbw], _, ⟨h.size, by rw [TC (by rw [hb, hbw])]; exact h.rel, h.defers⟩, hk.1 hbw⟩
   ·have hbn : b = !want := by cases b <;> cases want <;> simp_all
    exact .inr ⟨by simp [Region.wanted, hgd, hy, hbw], _, RelE.put (a := a) ⟨h.size, by rw [TC (by rw [hb, hbn])]; exact h.rel, h.defers⟩ hdst (by rw [R]; exact ⟨rfl, rfl⟩), hk.2 hbn⟩
  ·rename_i vs hb
   rw [hb, R] at hr
   obtain ⟨_, rfl⟩ := hr
   have hy : yielded ops a.tmps j = none := by simp [yielded, hoj, hds, hu']
   exact .inr ⟨by simp [Region.wanted, hgd, hy], _, h.put hdst (by rw [R]; exact ⟨rfl, rfl⟩), hk⟩
  ·exact hk.elim
theorem TE (h : RelE n gh g E H io B a w) (hg : ∀ x, g.forb x → x < g.w0.heap.size) {ops : Array Oper} {i : Nat} {o : Oper} {ao : AOper} (ho : ops[i]? = some o) (hc : F3 P n ops o = some ao) {K : ES → AH → Prop} (hk : Nu P md ao E H K)
  {next : Act → World → Prop} {Q : Exit → Act → World → Prop} (hn : ∀ E' H' io' B' a' w', K E' H' → RelE n gh g E' H' io' B' a' w' → (∃ v, a' = a.put o.dst v) → next a' w') : wpOp P ops Q i next a w := by
 unfold wpOp
 simp only [ho]
 rcases Z2 h hc hk with ⟨hw, E1, h1, hx⟩ | ⟨hw, E1, h1, hK⟩
 ·rw [if_pos hw]; exact .inl (WY h1 hg hc hx hn)
 ·rw [if_neg (by simp [hw])]; exact hn _ _ _ _ _ _ hK h1 ⟨_, rfl⟩
theorem FU (h : RelE n gh g E H io B a w) {ops : Array Oper} {o : Oper} {ao : AOper} (hc : F3 P n ops o = some ao) (hnk : RG ao.k = true) {K : ES → AH → Prop} (hk : Nu P md ao E H K) :
  ∃ v, Yields P ops o v a ∧ ∃ E1, RelE n gh g E1 H io B (a.put o.dst v) w ∧ K E1 H := by
 rcases Z2 h hc hk with ⟨hw, E0, h0, hx⟩ | ⟨hw, E1, h1, hK⟩
 case inr => exact ⟨undef, .inr ⟨hw, rfl⟩, E1, h1, hK⟩
 simp only [F3, Option.bind_eq_some_iff] at hc
 obtain ⟨⟨k, xs⟩, hop, hc⟩ := hc
 split at hc
 case isFalse => cases hc
 rename_i hcond
 simp only [fA, Bool.and_eq_true, Bool.not_eq_true'] at hcond
 obtain ⟨⟨⟨c1, c2⟩, c3⟩, c4⟩ := hcond
 obtain ⟨e1, e2, e3⟩ : ao.dst = o.dst ∧ ao.k = k ∧ ao.xs = xs := by
  split at hc
  ·cases hc; exact ⟨rfl, rfl, rfl⟩
  ·simp only [Option.bind_eq_some_iff] at hc
   obtain ⟨s, _, hc⟩ := hc
   split at hc
   ·cases hc; exact ⟨rfl, rfl, rfl⟩
   ·cases hc
 have hdst : ∀ d, o.dst = some d → d < n := by
  intro d hd
  rw [hd] at c4; simpa using c4
 have hxs : xs.map (ev (toT (n + gh.size) E0)) = xs.map (evE E0) := List.map_congr_left fun x hx => TU (List.all_eq_true.1 c2 x hx)
 have hrel : Rel g (toT (n + gh.size) E0) H io B (C8 a gh).tmps w := h0.rel
 have heval : execOp a.eval o = execOp (C8 a gh).eval o := execOp_congr o (by intro cs b he; rw [he] at c3; simp [bA] at c3) fun x hx => (RH h.size (Array.all_eq_true_iff_forall_mem.1 c1 x hx)).symm
 unfold Ho at hx
 rw [e1, e2, e3] at hx
 rw [e2] at hnk
 have plain : cM k = false → TD (aop k (xs.map (evE E0)) H) (fun r => K (Ec E0 o.dst r.1) r.2) → ∃ v, Yields P ops o v a ∧ ∃ E1, RelE n gh g E1 H io B (a.put o.dst v) w ∧ K E1 H := by
  rintro hok ⟨⟨av, H'⟩, haop, hK⟩
  rw [← hxs] at haop
  obtain ⟨nx, v, w', io', B', r1, r2, r3, r4, r5⟩ := gM hrel hop hok haop
  obtain ⟨rfl, rfl, rfl, rfl, hrun⟩ := r5 hnk
  exact ⟨v, .inl ⟨hw, fun w2 => by rw [heval]; exact hrun w2⟩, _, RelE.put (a := a) ⟨h.size, r3, h.defers⟩ hdst r4, hK⟩
 cases k
 case pick =>
  obtain ⟨dst, op, type, pos, after, guard⟩ := o
  obtain ⟨c, x, y, c', x', y', rfl, h1, h2, h3, rfl⟩ := Z1 hop
  simp only [List.map_cons, List.map_nil] at hx hxs
  obtain ⟨b, hb, k1, k2⟩ := hx
  simp only [List.cons.injEq, and_true] at hxs
  have r1 := Cu hrel h1
  have r2 := Cu hrel h2
  have r3 := Cu hrel h3
  rw [hxs.1, hb, R] at r1
  have hrun : ∀ w, (execOp (C8 a gh).eval ⟨dst, .pick c x y, type, pos, after, guard⟩).run P w = .ok (.value (if b then (C8 a gh).eval x else (C8 a gh).eval y)) w := by
   intro w
   simp [execOp, r1.2, asBool]
  refine ⟨_, .inl ⟨hw, fun w2 => by rw [heval]; exact hrun w2⟩, ?_⟩
  cases b with
  | true => exact ⟨_, h0.put hdst (by rw [hxs.2.1] at r2; exact r2), k1 rfl⟩
  | false => exact ⟨_, h0.put hdst (by rw [hxs.2.2] at r3; exact r3), k2 rfl⟩
 case call f ms => cases hnk
 case callv ms => cases hnk
 case nilq ng => cases hnk
 all_goals exact plain rfl hx
end
end Go.Proofs.Dev
