/- Contracts of the functions of the program over slots and rows, each proved against the program itself; no condition beyond those that each theorem names. -/
import Derived.Test.YtfkmfobbgoflgaaGreatDoorAF
set_option linter.unusedSimpArgs false
set_option linter.unusedVariables false
set_option maxRecDepth 100000
namespace Go.Proofs.Dev
theorem PZ : ∀ (ids : List Nat) (i k : Nat), TW ids i = some k → ids[k]? = some i
 | [], i, k, h => by simp [TW] at h
 | x :: xs, i, k, h => by
   simp only [TW] at h
   split at h
   ·rename_i hx; cases h; simp [hx]
   ·simp only [Option.map_eq_some_iff] at h
    obtain ⟨j, hj, rfl⟩ := h
    simpa using PZ xs i j hj
theorem Wb (all : List Nat) (H : AH) : ∀ (ids : List Nat) (k : Nat), (Ys ids all H)[k]? = (ids[k]?).map (cQ all H)
 | [], k => by simp [Ys]
 | x :: xs, 0 => by simp [Ys]
 | x :: xs, k + 1 => by simp [Ys, Wb all H xs k]
theorem O0 (all : List Nat) (H : AH) : ∀ ids : List Nat, (Ys ids all H).length = ids.length
 | [] => rfl
 | x :: xs => by simp [Ys, O0 all H xs]
theorem X3 {all : List Nat} {H : AH} {ids : List Nat} {k : Nat} {r : Row} (h : Live (Ys ids all H) k r) : ∃ id s, ids[k]? = some id ∧ Live H id s ∧ r = Z3 all s := by
 unfold Live at h
 rw [Wb] at h
 cases hi : ids[k]? with
 | none => rw [hi] at h; cases h
 | some id =>
   rw [hi] at h
   simp only [Option.map_some, Option.some.injEq, cQ] at h
   split at h
   ·rename_i s hs; cases h; exact ⟨id, s, rfl, hs, rfl⟩
   ·cases h
theorem cU {all : List Nat} {H : AH} {ids : List Nat} {k id : Nat} {s : Row} (hi : ids[k]? = some id) (h : Live H id s) : Live (Ys ids all H) k (Z3 all s) := by
 unfold Live
 rw [Wb, hi]
 unfold Live at h
 simp [cQ, h]
section
variable {C C' : Ctx} {ids : List Nat}
mutual
theorem gN (hio : ∀ (k id : Nat), ids[k]? = some id → C'.io k = C.io id) (hst : ∀ c, Step (C.at c) (C'.at c)) (hn : ids.length ≤ C'.n) (hw : C'.w = C.w) : ∀ (a : AV) (S : List Nat) (u : Value), R C a S u → S = [] → R C' (ren ids a) S u
 | .bot, S, u, h, hS => by simp only [ren]; rw [R] at *; exact h
 | .v x, S, u, h, hS => by simp only [ren]; rw [R] at *; exact h
 | .sl c sz es, S, u, h, hS => by
   simp only [ren]
   rw [R] at *
   obtain ⟨h0, a, cap, hu, hc, h⟩ := h
   refine ⟨h0, a, cap, hu, hc, orR ?_ h⟩
   rintro ⟨b, p, us, ha, hb, hbad, hcells, hsz, hrl⟩
   have hs := (hst c).bad c b hb (by simp only [Ctx.at, Classical.not_imp]; exact ⟨trivial, hbad⟩)
   simp only [Ctx.at, Classical.not_imp] at hs
   exact ⟨b, p, us, ha, by rw [hw]; exact hb, hs.1.2, by rw [hw]; exact hcells, hsz, RL.step (hst c) _ _ _ (by simp) hrl⟩
 | .vp c cs o, S, u, h, hS => by
   simp only [ren]
   rw [R] at *
   obtain ⟨h0, b, p, us, hu, hb, hbad, hcells, hrl⟩ := h
   have hs := (hst c).bad c b hb (by simp only [Ctx.at, Classical.not_imp]; exact ⟨trivial, hbad⟩)
   simp only [Ctx.at, Classical.not_imp] at hs
   exact ⟨h0, b, p, us, hu, by rw [hw]; exact hb, hs.1.2, by rw [hw]; exact hcells, RL.step (hst c) _ _ _ (by simp) hrl⟩
 | .ls sz id off n, S, u, h, hS => by
   simp only [ren]
   cases hp : TW ids id with
   | none => simp only; rw [R]; exact hS
   | some k =>
     have hk := PZ ids id k hp
     simp only
     rw [R] at *
     obtain ⟨h0, _, a, cap, hu, hc, h⟩ := h
     refine ⟨h0, Nat.lt_of_lt_of_le (List.getElem?_eq_some_iff.1 hk).1 hn, a, cap, hu, hc, ?_⟩
     rw [hio k id hk, hw]; exact h
 | .lw sz id off n, S, u, h, hS => by
   simp only [ren]
   cases hp : TW ids id with
   | none => simp only; rw [R]; exact hS
   | some k =>
     have hk := PZ ids id k hp
     simp only
     rw [R] at *
     obtain ⟨h0, a, cap, hu, hc, h⟩ := h
     refine ⟨h0, a, cap, hu, hc, ?_⟩
     rw [hio k id hk, hw]; exact h
 | .lp sz id i o, S, u, h, hS => by
   simp only [ren]
   cases hp : TW ids id with
   | none => simp only; rw [R]; exact hS
   | some k =>
     have hk := PZ ids id k hp
     simp only
     rw [R] at *
     rw [hio k id hk]; exact h
 | .os sz es, S, u, h, hS => by
   subst hS
   simp only [ren]
   rw [R] at *
   obtain ⟨a, cap, hu, hc, h⟩ := h
   refine ⟨a, cap, hu, hc, ?_⟩
   rcases h with h | ⟨_, b, p, us, S', hh, _⟩
   ·exact .inl h
   ·cases hh
 | .op cs, S, u, h, hS => by
   subst hS
   rw [R] at h
   obtain ⟨b, p, us, S', hh, _⟩ := h
   cases hh
 | .fn f cs, S, u, h, hS => by
   simp only [ren]
   rw [R] at *
   obtain ⟨us, hu, h⟩ := h
   exact ⟨us, hu, renL_ok hio hst hn hw cs S us h hS⟩
 | .agg cs, S, u, h, hS => by
   simp only [ren]
   rw [R] at *
   obtain ⟨us, hu, h⟩ := h
   exact ⟨us, hu, renL_ok hio hst hn hw cs S us h hS⟩
 | .tup cs, S, u, h, hS => by
   simp only [ren]
   rw [R] at *
   obtain ⟨us, hu, h⟩ := h
   exact ⟨us, hu, renL_ok hio hst hn hw cs S us h hS⟩
theorem renL_ok (hio : ∀ (k id : Nat), ids[k]? = some id → C'.io k = C.io id) (hst : ∀ c, Step (C.at c) (C'.at c)) (hn : ids.length ≤ C'.n) (hw : C'.w = C.w) : ∀ (as : List AV) (S : List Nat) (us : List Value), RL C as S us → S = [] → RL C' (renL ids as) S us
 | [], S, us, h, hS => by simp only [renL]; rw [RL] at *; exact h
 | a :: as, S, us, h, hS => by
   simp only [renL]
   rw [RL] at *
   obtain ⟨S1, S2, u, us', hSS, rfl, h1, h2⟩ := h
   subst hS
   obtain ⟨rfl, rfl⟩ : S1 = [] ∧ S2 = [] := by simpa using hSS.symm
   exact ⟨[], [], u, us', rfl, rfl, gN hio hst hn hw a [] u h1 rfl, renL_ok hio hst hn hw as [] us' h2 rfl⟩
end
end
theorem O1 (ids : List Nat) : ∀ as : List AV, (renL ids as).length = as.length
 | [] => by simp [renL]
 | a :: as => by simp [renL, O1 ids as]
theorem Wc (ids : List Nat) : ∀ (as : List AV) (i : Nat), (renL ids as)[i]? = (as[i]?).map (ren ids)
 | [], i => by simp [renL]
 | a :: as, 0 => by simp [renL]
 | a :: as, i + 1 => by simp [renL, Wc ids as i]
theorem Z7 (ids : List Nat) : ∀ (E : ES) (i : Nat), get (ii ids E) i = ren ids (get E i)
 | [], i => by simp [ii, get, ren]
 | p :: E, i => by simp only [ii, get]; split <;> simp [Z7 ids E]
theorem ik (ids : List Nat) (n : Nat) (E : ES) : renL ids (toT n E) = toT n (ii ids E) := by
 apply List.ext_getElem?
 intro i
 rw [Wc]
 simp only [toT, List.getElem?_map]
 cases h : (List.range n)[i]? with
 | none => rfl
 | some j => simp [Z7]
theorem X4 (E : ES) : ∀ (live : List Nat) (i : Nat), get (Yx live E) i = .bot ∨ get (Yx live E) i = get E i
 | [], i => .inl rfl
 | x :: xs, i => by
   simp only [Yx, get]
   split
   ·rename_i h; subst h; exact .inr rfl
   ·exact X4 E xs i
section
variable {g : Env} {T : List AV} {H : AH} {io : Nat → Option (Nat × Nat)} {B : Nat → List Nat} {tmps : Array Value} {w : World}
theorem Rel.renum (h : Rel g T H io B tmps w) {ids : List Nat} (hnd : ids.Nodup) : ∃ io' B', Rel g (renL ids T) (Ys ids ids H) io' B' tmps w := by
 let io' : Nat → Option (Nat × Nat) := fun k => (ids[k]?).bind io
 let B' : Nat → List Nat := fun k => match ids[k]? with | some id => B id | none => []
 have hio' : ∀ (k id : Nat), ids[k]? = some id → io' k = io id := fun k id hk => by simp [io', hk]
 have hB' : ∀ (k id : Nat), ids[k]? = some id → B' k = B id := fun k id hk => by simp [B', hk]
 have hBm : ∀ k x, x ∈ B' k → ∃ id, ids[k]? = some id ∧ x ∈ B id := by
  intro k x hx
  simp only [B'] at hx
  split at hx
  ·rename_i id hid; exact ⟨id, hid, hx⟩
  ·cases hx
 have hbad : ∀ c x, ¬ (ctx g H io B w).bad c x → ¬ (ctx g (Ys ids ids H) io' B' w).bad c x := by
  intro c x hx hb
  match c, hx, hb with
  | 0, hx, hb =>
    rcases hb with ⟨k, hk⟩ | hb
    ·obtain ⟨id, _, hm⟩ := hBm k x hk; exact hx (.inl ⟨id, hm⟩)
    ·exact hx (.inr hb)
  | 1, hx, ⟨k, hk⟩ => obtain ⟨id, _, hm⟩ := hBm k x hk; exact hx ⟨id, hm⟩
  | c + 2, hx, ⟨k, p, r, hi, hl⟩ =>
    obtain ⟨id, s, h1, h2, _⟩ := X3 hl
    exact hx ⟨id, p, s, by rw [← hio' k id h1]; exact hi, h2⟩
 have hst : ∀ c, Step ((ctx g H io B w).at c) ((ctx g (Ys ids ids H) io' B' w).at c) := by
  intro c
  refine ⟨Nat.le_refl _, ?_, fun _ _ hx => by simp [Ctx.at] at hx, Nat.le_refl _, fun _ _ => rfl, fun _ _ _ hr => hr⟩
  intro d b _ hb
  simp only [Ctx.at, Classical.not_imp] at hb ⊢
  exact ⟨⟨hb.1, hbad c b hb.2⟩, rfl⟩
 have hn : ids.length ≤ (ctx g (Ys ids ids H) io' B' w).n := by show ids.length ≤ (Ys ids ids H).length; rw [O0]; exact Nat.le_refl _
 refine ⟨io', B', ?_, ?_, ?_, ?_, ?_, ?_, ?_, ?_, ?_, h.kept, h.gb⟩
 ·rw [O1]; exact h.size
 ·intro i av hi
  rw [Wc] at hi
  cases hT : T[i]? with
  | none => rw [hT] at hi; cases hi
  | some a =>
    rw [hT] at hi
    simp only [Option.map_some, Option.some.injEq] at hi
    obtain ⟨u, hu, hr⟩ := h.tmps i a hT
    exact ⟨u, hu, hi ▸ gN hio' hst hn rfl a [] u hr rfl⟩
 ·intro k r hl
  obtain ⟨id, s, h1, h2, rfl⟩ := X3 hl
  rw [hB' k id h1, hio' k id h1]
  have hr := h.rows id s h2
  cases s with
  | box cs =>
    obtain ⟨b, p, us, a1, a2, a3, a4, a5, a6⟩ := hr
    exact ⟨b, p, us, a1, a2, a3, by rw [O1]; exact a4, a5, renL_ok hio' hst hn rfl cs [] us a6 rfl⟩
  | arr sz es =>
    refine orR ?_ hr
    rintro ⟨b, p, us, S, a1, a2, a3, a4, a5, a6, a7⟩
    exact ⟨b, p, us, S, a1, a2, a3, a4, a5, a6, RL.step (hst 0) _ _ _ (fun _ _ => rfl) a7⟩
  | pool us es =>
    obtain ⟨a1, a2, a3⟩ := hr
    exact ⟨a1, a2, RL.step (hst 0) _ _ _ (fun _ _ => rfl) a3⟩
 ·intro k hk
  show B' k = []
  simp only [B']
  split
  ·rename_i id hid
   exact h.dead id fun r hl => hk _ (cU hid hl)
  ·rfl
 ·intro k hk
  rw [O0] at hk
  simp [io', List.getElem?_eq_none hk]
 ·intro k
  show (B' k).Nodup
  simp only [B']
  split
  ·exact h.nd _
  ·simp
 ·intro i j x hi hj
  obtain ⟨id, h1, h2⟩ := hBm i x hi
  obtain ⟨id', h3, h4⟩ := hBm j x hj
  have e := h.dj _ _ _ h2 h4
  subst e
  exact (List.getElem?_inj (List.getElem?_eq_some_iff.1 h1).1 hnd).1 (h1.trans h3.symm)
 ·intro k x hx
  obtain ⟨id, _, h2⟩ := hBm k x hx
  exact h.lt id x h2
 ·intro k x hx
  obtain ⟨id, _, h2⟩ := hBm k x hx
  exact h.own id x h2
theorem Rel.phant_ok {n : Nat} : ∀ (ps : List (Nat × Nat)) {E : ES} {H : AH} {io : Nat → Option (Nat × Nat)} {B : Nat → List Nat}, Rel g (toT n E) H io B tmps w → ∃ io' B', Rel g (toT n (Yy ps E H).1) (Yy ps E H).2 io' B' tmps w
 | [], E, H, io, B, h => ⟨io, B, h⟩
 | p :: ps, E, H, io, B, h => by
   simp only [Yy]
   split
   ·rename_i sz hE
    by_cases hp : p.1 < n
    ·obtain ⟨u, hu, hr⟩ := h.get p.1
     rw [Hv hp, hE, R] at hr
     obtain ⟨a, cap, hu2, hcap, hr⟩ := hr
     rcases hr with ⟨rfl, _⟩ | ⟨_, b, q, us, S', hh, _⟩
     ·obtain ⟨io1, B1, e1, h1, _⟩ := h.phantom p.2 (w' := w) (.inl rfl)
      have h2 := h1.put (some p.1) (av := .ls p.2 H.length 0 0) (u := u) (by
       rw [R]
       exact ⟨rfl, by simp [ctx], a, 0, hu2, Nat.le_refl _, .inl ⟨rfl, e1⟩⟩)
      rw [WX] at h2
      have hsz := h.size
      have hlt : p.1 < tmps.size := by rw [hsz]; simpa [toT] using hp
      have e2 : eR tmps (some p.1) u = tmps := by
       simp only [eR]
       rw [← hu]
       apply Array.ext_getElem?
       intro i
       rw [Array.getElem?_setIfInBounds]
       by_cases hi : p.1 = i
       ·subst hi; simp [hlt, Array.getD]
       ·simp [hi]
      rw [e2] at h2
      exact Rel.phant_ok ps h2
     ·cases hh
    ·obtain ⟨io1, B1, e1, h1, _⟩ := h.phantom p.2 (w' := w) (.inl rfl)
     refine Rel.phant_ok ps (E := (p.1, .ls p.2 H.length 0 0) :: E) (h1.weaken (by simp [toT]) ?_)
     intro i av hi
     right
     rw [← hi]
     simp only [toT, List.getElem?_map]
     by_cases hin : i < n
     ·simp only [List.getElem?_range hin, Option.map_some, Option.some.injEq]
      show _ = (if p.1 = i then _ else _)
      rw [if_neg (by omega)]
     ·rw [List.getElem?_eq_none (by simpa using hin)]; rfl
   ·exact Rel.phant_ok ps h
theorem Rel.keep_ok {n : Nat} {E : ES} (live : List Nat) (h : Rel g (toT n E) H io B tmps w) : Rel g (toT n (Yx live E)) H io B tmps w := by
 refine h.weaken (by simp [toT]) ?_
 intro i av hi
 simp only [toT, List.getElem?_map] at hi ⊢
 by_cases hin : i < n
 ·simp only [List.getElem?_range hin, Option.map_some, Option.some.injEq] at hi ⊢
  rcases X4 E live i with h1 | h1
  ·left; rw [← hi, h1]
  ·right; rw [← hi, h1]
 ·rw [List.getElem?_eq_none (by simpa using hin)] at hi; cases hi
end
section
variable {P : Program} {md : Nat → List Bool} {g : Env} {n : Nat} {gh : Array Value}
theorem Hp {phs : List (Nat × Nat)} {live : List Nat} {E : ES} {H : AH} {io : Nat → Option (Nat × Nat)} {B : Nat → List Nat} {a : Act} {w : World} {K : ES → AH → Prop} (h : RelE n gh g E H io B a w) (hk : GN phs live E H K) :
  ∃ E' H' io' B', K E' H' ∧ RelE n gh g E' H' io' B' a w := by
 unfold GN at hk
 obtain ⟨hnd, hK⟩ := hk
 obtain ⟨io1, B1, h1⟩ := Rel.phant_ok phs h.rel
 have h2 := h1.keep_ok live
 obtain ⟨io2, B2, h3⟩ := h2.renum hnd
 rw [ik] at h3
 exact ⟨_, _, io2, B2, hK, h.size, h3, h.defers⟩
theorem X5 {E : ES} {H : AH} {io : Nat → Option (Nat × Nat)} {B : Nat → List Nat} {a : Act} {w : World} (h : RelE n gh g E H io B a w) {c : Operand} {c' : Opd} (hc : cO 1 c = some c') (ht : a8 n c = true) (ho : Xx n c' = true) {t : Bool} (he : evE E c' = .v (.bool t)) :
  a.eval c = .bool t := by
 have hrel : Rel g (toT (n + gh.size) E) H io B (C8 a gh).tmps w := h.rel
 have := Cu hrel hc
 rw [TU ho, he, R, RH h.size ht] at this
 exact this.2
theorem Y0 {ops : Array Oper} {sub : Nat → Option Plan} : ∀ {rs : List Nat} {p : Plan} {K : ES → AH → Prop} {E : ES} {H : AH}, HZ P n ops sub rs = some p → Cv P md p K E H →
  ∀ i ∈ rs, ∃ o ao q, ops[i]? = some o ∧ F3 P n ops o = some ao ∧ sub i = some q ∧ Nu P md ao E H (Cv P md q K)
 | [], p, K, E, H, h, hk, i, hi => by cases hi
 | j :: rs, p, K, E, H, h, hk, i, hi => by
   simp only [HZ, Option.bind_eq_some_iff, Option.some.injEq] at h
   obtain ⟨o, ho, ao, hao, q, hq, r, hr, rfl⟩ := h
   rcases List.mem_cons.1 hi with rfl | hi
   ·exact ⟨o, ao, q, ho, hao, hq, hk.1⟩
   ·exact Y0 hr hk.2 i hi
theorem Y1 (hg : ∀ x, g.forb x → x < g.w0.heap.size) {ops : Array Oper} (hsel : Region.noSelect ops = true) {Q : Exit → Act → World → Prop} (hQ : ∀ c a w, ¬ Q (.panic c) a w) : ∀ (fuel : Nat) (listed : Array Bool) (p : Plan) {E : ES} {H : AH} {io : Nat → Option (Nat × Nat)} {B : Nat → List Nat} {w : World} {a : Act} {K : ES → AH → Prop},
  TX P n ops fuel listed = some p → RelE n gh g E H io B a w → Cv P md p K E H → (∀ E' H' io' B' a' w', K E' H' → RelE n gh g E' H' io' B' a' w' → Q .normal a' w') → wpAny P .any ops Q fuel listed a w
 | 0, listed, p, E, H, io, B, w, a, K, hp, h, hk, hq => by
   simp only [TX] at hp
   split at hp
   case isFalse => cases hp
   rename_i hr
   cases hp
   exact wpAny_done (by simpa using hr) (hq _ _ _ _ _ _ hk h) 0
 | fuel + 1, listed, p, E, H, io, B, w, a, K, hp, h, hk, hq => by
   simp only [TX] at hp
   split at hp
   ·rename_i hr
    cases hp
    exact wpAny_done (by simpa using hr) (hq _ _ _ _ _ _ hk h) _
   ·rename_i hr
    split at hp
    ·rename_i i hi
     have h1 := List.find?_some hi
     have h2 := List.mem_of_find?_eq_some hi
     simp only [Bool.and_eq_true] at h1
     simp only [Option.bind_eq_some_iff, Option.some.injEq] at hp
     obtain ⟨o, ho, ao, hao, q, hq', rfl⟩ := hp
     have hnk : RG ao.k = true := by
      have := h1.2
      simpa [X1, ho, hao] using this
     obtain ⟨v, hy, E1, hR, hK⟩ := FU h hao hnk hk
     exact wpAny_take ho hsel h1.1 (by simpa using h2) (fun c a w hp => absurd hp (hQ _ _ _)) hy (Y1 hg hsel hQ fuel _ q hq' hR hK hq)
    ·refine wpAny_all rfl (by simpa using hr) ?_
     intro i hi
     obtain ⟨o, ao, q, ho, hao, hq', hop⟩ := Y0 hp hk i hi
     exact TE h hg ho hao hop fun E' H' io' B' a' w' hK hR _ => Y1 hg hsel hQ fuel _ q hq' hR hK hq
theorem RelE.drawn {E : ES} {H : AH} {io : Nat → Option (Nat × Nat)} {B : Nat → List Nat} {a : Act} {w : World} (h : RelE n gh g E H io B a w) (d : Nat) : RelE n gh g E H io B a { w with drawn := d } :=
 ⟨h.size, (h.rel.heap (w' := { w with drawn := d }) rfl rfl rfl rfl).1, h.defers⟩
theorem lD {K : ES → AH → Prop} {E : ES} {H : AH} (hk : Lg K E H) : ∀ {io : Nat → Option (Nat × Nat)} {B : Nat → List Nat} {a : Act} {w : World}, RelE n gh g E H io B a w →
  ∃ E' H' io' B', K E' H' ∧ RelE n gh g E' H' io' B' a w := by
 induction hk with
 | done hk => intro io B a w h; exact ⟨_, _, _, _, hk, h⟩
 | takeAll id es hl h1 _ ih =>
   intro io B a w h
   obtain ⟨us, io1, B1, hlen, hok, hr⟩ := h.rel.takeAll hl h1
   rw [FT] at hr
   exact ih us hlen hok ⟨h.size, hr, h.defers⟩
 | split k n us es hl _ ih =>
   intro io B a w h
   obtain ⟨io1, B1, hr⟩ := h.rel.splitPool (n := n) hl
   rw [FT] at hr
   exact ih ⟨h.size, hr, h.defers⟩
 | implode id k us A C es hl hk hne hA hC hE _ ih =>
   intro io B a w h
   obtain ⟨io1, B1, hr⟩ := h.rel.implode hl hk hne hA hC hE
   rw [FT] at hr
   exact ih ⟨h.size, hr, h.defers⟩
 | unpool k sz id o u xs cs hk hl ho _ ih =>
   intro io B a w h
   obtain ⟨io1, B1, hr, hu⟩ := h.rel.unpool hk
   obtain ⟨io2, B2, hr2⟩ := hr.recell hl ho hu
   rw [FT] at hr2
   exact ih ⟨h.size, hr2, h.defers⟩
theorem N2 (hg : ∀ x, g.forb x → x < g.w0.heap.size) : ∀ (ac : ACode) (code : Code) {E : ES} {H : AH} {io : Nat → Option (Nat × Nat)} {B : Nat → List Nat} {w : World} {a : Act} {AQ : AExit → ES → AH → Prop} {Q : Exit → Act → World → Prop},
  I8 P n code = some (erase ac) → RelE n gh g E H io B a w → awp P md ac AQ E H → (∀ e E' H' io' B' a' w', AQ e E' H' → RelE n gh g E' H' io' B' a' w' → Q e.to a' w') → code.wp P Q a w
 | .skip, code, E, H, io, B, w, a, AQ, Q, hc, h, hk, hq => by
   cases code <;> simp only [I8, erase, Option.bind_eq_some_iff, Option.some.injEq, reduceCtorEq, and_false, exists_false] at hc
   case skip => exact wp_skip (hq .normal _ _ _ _ _ _ hk h)
   case region id ops d => rcases El hc with h | ⟨_, _, h, _⟩ | ⟨_, _, h, _⟩ <;> cases h
   case cond => split at hc <;> simp [Option.bind_eq_some_iff] at hc
 | .reg os, code, E, H, io, B, w, a, AQ, Q, hc, h, hk, hq => by
   cases code <;> simp only [I8, erase, Option.bind_eq_some_iff, Option.some.injEq, reduceCtorEq, and_false, exists_false] at hc
   case region id ops d =>
    rcases El hc with hx | ⟨os', rfl, hx, h1⟩ | ⟨_, _, hx, _⟩ <;> cases hx
    refine wp_region ?_
    have := X2 (P := P) (md := md) hg (ops := ops) (Q := Q) ops.toList os 0 h1 (by simp) (by simp) h hk (fun E' H' io' B' a' w' hK hR => hq .normal _ _ _ _ _ _ hK hR)
    rw [List.range_eq_range']
    simpa using this
   case cond => split at hc <;> simp [Option.bind_eq_some_iff] at hc
 | .own os, code, E, H, io, B, w, a, AQ, Q, hc, h, hk, hq => by
   cases code <;> simp only [I8, erase, Option.bind_eq_some_iff, Option.some.injEq, reduceCtorEq, and_false, exists_false] at hc
   case region id ops d =>
    rcases El hc with hx | ⟨os', rfl, hx, h1⟩ | ⟨_, _, hx, _⟩
    case inl => cases hx
    case inr.inr => cases hx
    simp only [ACode.reg.injEq] at hx
    subst hx
    refine wp_region ?_
    have := Wa (P := P) (md := md) hg (ops := ops) (Q := Q) os ops.toList 0 none h1 (by simp) h (fun d u e => by cases e) hk (fun E' H' io' B' a' w' hK hR => hq .normal _ _ _ _ _ _ hK hR)
    rw [List.range_eq_range']
    simpa using this
   case cond => split at hc <;> simp [Option.bind_eq_some_iff] at hc
 | .draw p, code, E, H, io, B, w, a, AQ, Q, hc, h, hk, hq => by
   cases code <;> simp only [I8, erase, Option.bind_eq_some_iff, Option.some.injEq, reduceCtorEq, and_false, exists_false] at hc
   case region id ops d =>
    rcases El hc with hx | ⟨_, _, hx, _⟩ | ⟨p', rfl, hx, hcond, hp⟩ <;> cases hx
    simp only [Bool.and_eq_true] at hcond
    refine wp_mono (Q := fun e a w => match e with | .panic _ => False | e => Q e a w) (wp_region_any hcond.1 ?_) ?_
    ·exact Y1 hg hcond.2 (fun _ _ _ hh => hh) ops.size _ p hp (h.drawn _) hk fun E' H' io' B' a' w' hK hR => hq .normal _ _ _ _ _ _ hK hR
    ·intro e a w he
     cases e <;> first | exact he | exact he.elim
   case cond => split at hc <;> simp [Option.bind_eq_some_iff] at hc
 | .seq x y, code, E, H, io, B, w, a, AQ, Q, hc, h, hk, hq => by
   cases code <;> simp only [I8, erase, Option.bind_eq_some_iff, Option.some.injEq, reduceCtorEq, and_false, exists_false, ACode.seq.injEq] at hc
   case region id ops d => rcases El hc with h | ⟨_, _, h, _⟩ | ⟨_, _, h, _⟩ <;> cases h
   case cond => split at hc <;> simp [Option.bind_eq_some_iff] at hc
   case seq c1 c2 =>
    obtain ⟨x', h1, y', h2, rfl, rfl⟩ := hc
    refine wp_seq (N2 hg x c1 h1 h hk ?_)
    intro e E' H' io' B' a' w' hA hR
    cases e with
    | normal => exact N2 hg y c2 h2 hR hA hq
    | exit id => exact hq (.exit id) _ _ _ _ _ _ hA hR
    | ret => exact hq .ret _ _ _ _ _ _ hA hR
 | .cond c x y, code, E, H, io, B, w, a, AQ, Q, hc, h, hk, hq => by
   cases code <;> simp only [I8, erase, Option.bind_eq_some_iff, Option.some.injEq, reduceCtorEq, and_false, exists_false] at hc
   case region id ops d => rcases El hc with h | ⟨_, _, h, _⟩ | ⟨_, _, h, _⟩ <;> cases h
   case cond c0 c1 c2 =>
    split at hc
    case isFalse => cases hc
    rename_i ht
    simp only [Option.bind_eq_some_iff] at hc
    obtain ⟨c', h0, x', h1, y', h2, hc⟩ := hc
    split at hc
    case isFalse => cases hc
    rename_i ho
    simp only [Option.some.injEq, ACode.cond.injEq] at hc
    obtain ⟨rfl, rfl, rfl⟩ := hc
    obtain ⟨t, he, k1, k2⟩ := hk
    refine wp_cond_split (X5 h h0 ht ho he) ?_ ?_
    ·intro e; exact N2 hg x c1 h1 h (k1 e) hq
    ·intro e; exact N2 hg y c2 h2 h (k2 e) hq
 | .block id x, code, E, H, io, B, w, a, AQ, Q, hc, h, hk, hq => by
   cases code <;> simp only [I8, erase, Option.bind_eq_some_iff, Option.some.injEq, reduceCtorEq, and_false, exists_false, ACode.block.injEq] at hc
   case region id ops d => rcases El hc with h | ⟨_, _, h, _⟩ | ⟨_, _, h, _⟩ <;> cases h
   case cond => split at hc <;> simp [Option.bind_eq_some_iff] at hc
   case block id' c1 =>
    obtain ⟨x', h1, rfl, rfl⟩ := hc
    refine wp_block (N2 hg x c1 h1 h hk ?_)
    intro e E' H' io' B' a' w' hA hR
    cases e with
    | normal => exact hq .normal _ _ _ _ _ _ hA hR
    | ret => exact hq .ret _ _ _ _ _ _ hA hR
    | exit j =>
      simp only [PY] at hA
      simp only [AExit.to, Exit.inBlock]
      split at hA
      ·rename_i hj; rw [if_pos hj]; exact hq .normal _ _ _ _ _ _ hA hR
      ·rename_i hj; rw [if_neg hj]; exact hq (.exit j) _ _ _ _ _ _ hA hR
 | .loop phs live x, code, E, H, io, B, w, a, AQ, Q, hc, h, hk, hq => by
   cases code <;> simp only [I8, erase, Option.bind_eq_some_iff, Option.some.injEq, reduceCtorEq, and_false, exists_false, ACode.loop.injEq, true_and] at hc
   case region id ops d => rcases El hc with h | ⟨_, _, h, _⟩ | ⟨_, _, h, _⟩ <;> cases h
   case cond => split at hc <;> simp [Option.bind_eq_some_iff] at hc
   case loop c1 =>
    obtain ⟨x', h1, rfl⟩ := hc
    obtain ⟨E0, H0, io0, B0, ⟨I, n0, hI, hround⟩, hR0⟩ := Hp h hk
    refine wp_loop_ghost (fun m a w => ∃ E H io B, I m E H ∧ RelE n gh g E H io B a w) n0 ⟨E0, H0, io0, B0, hI, hR0⟩ ?_
    rintro m a' w' ⟨E1, H1, io1, B1, hI1, hR1⟩
    refine N2 hg x c1 h1 hR1 (hround m E1 H1 hI1) ?_
    intro e E' H' io' B' a'' w'' hA hR
    cases e with
    | normal =>
      obtain ⟨E2, H2, io2, B2, ⟨m', hlt, hA⟩, hR2⟩ := Hp hR hA
      exact ⟨m', hlt, E2, H2, io2, B2, hA, hR2⟩
    | exit id => exact hq (.exit id) _ _ _ _ _ _ hA hR
    | ret => exact hq .ret _ _ _ _ _ _ hA hR
 | .fail, code, E, H, io, B, w, a, AQ, Q, hc, h, hk, hq => by exact hk.elim
 | .exit id, code, E, H, io, B, w, a, AQ, Q, hc, h, hk, hq => by
   cases code <;> simp only [I8, erase, Option.bind_eq_some_iff, Option.some.injEq, reduceCtorEq, and_false, exists_false, ACode.exit.injEq] at hc
   case region id ops d => rcases El hc with h | ⟨_, _, h, _⟩ | ⟨_, _, h, _⟩ <;> cases h
   case cond => split at hc <;> simp [Option.bind_eq_some_iff] at hc
   case exit id' => subst hc; exact wp_exit (hq (.exit _) _ _ _ _ _ _ hk h)
 | .ret, code, E, H, io, B, w, a, AQ, Q, hc, h, hk, hq => by
   cases code <;> simp only [I8, erase, Option.bind_eq_some_iff, Option.some.injEq, reduceCtorEq, and_false, exists_false] at hc
   case region id ops d => rcases El hc with h | ⟨_, _, h, _⟩ | ⟨_, _, h, _⟩ <;> cases h
   case cond => split at hc <;> simp [Option.bind_eq_some_iff] at hc
   case ret => exact wp_ret (hq .ret _ _ _ _ _ _ hk h)
 | .gc phs live x, code, E, H, io, B, w, a, AQ, Q, hc, h, hk, hq => by
   obtain ⟨E', H', io', B', hK, hR⟩ := Hp h hk
   exact N2 hg x code hc hR hK hq
 | .lg x, code, E, H, io, B, w, a, AQ, Q, hc, h, hk, hq => by
   obtain ⟨E', H', io', B', hK, hR⟩ := lD hk h
   exact N2 hg x code hc hR hK hq
end
def cV : Nat → List AV → ES
 | _, [] => []
 | i, a :: as => (i, a) :: cV (i + 1) as
theorem Z8 : ∀ (as : List AV) (k i : Nat), get (cV k as) i = if k ≤ i then (as[i - k]?).getD .bot else .bot
 | [], k, i => by simp [cV, get]
 | a :: as, k, i => by
   simp only [cV, get]
   split
   ·rename_i h; subst h; simp
   ·rename_i h
    rw [Z8 as (k + 1) i]
    by_cases hk : k + 1 ≤ i
    ·rw [if_pos hk, if_pos (by omega)]
     rw [show i - k = (i - (k + 1)) + 1 by omega]; simp
    ·rw [if_neg hk, if_neg (by omega)]
theorem V6 : ∀ (E F : ES) (i : Nat), (∀ p ∈ E, p.1 ≠ i) → get (E ++ F) i = get F i
 | [], F, i, _ => rfl
 | p :: E, F, i, h => by
   simp only [List.cons_append, get]
   rw [if_neg (h p (by simp))]
   exact V6 E F i fun q hq => h q (by simp [hq])
theorem Z9 : ∀ (as : List AV) (k : Nat) (p : Nat × AV), p ∈ cV k as → k ≤ p.1 ∧ p.1 < k + as.length
 | [], k, p, h => by cases h
 | a :: as, k, p, h => by
   simp only [cV, List.mem_cons] at h
   rcases h with rfl | h
   ·simp
   ·have := Z9 as (k + 1) p h; simp; omega
theorem Pa : ∀ (as : List AV) (k i : Nat) (F : ES), k ≤ i → i < k + as.length → get (cV k as ++ F) i = (as[i - k]?).getD .bot
 | [], k, i, F, h1, h2 => by simp at h2; omega
 | a :: as, k, i, F, h1, h2 => by
   simp only [cV, List.cons_append, get]
   split
   ·rename_i h; subst h; simp
   ·rename_i h
    rw [Pa as (k + 1) i F (by omega) (by simp at h2; omega)]
    rw [show i - k = (i - (k + 1)) + 1 by omega]; simp
def TY : Nat → AH
 | 0 => []
 | n + 1 => none :: TY n
theorem MP : ∀ n, (TY n).length = n
 | 0 => rfl
 | n + 1 => by simp [TY, MP n]
theorem V7 : ∀ (n i : Nat) (r : Row), ¬ Live (TY n) i r
 | 0, i, r, h => by simp [TY, Live] at h
 | n + 1, 0, r, h => by simp [TY, Live] at h
 | n + 1, i + 1, r, h => V7 n i r (by simpa [TY, Live] using h)
def eW (n : Nat) (as : List AV) : ES := cV 0 (thawL as 0).1 ++ cV n (thawL as 0).1
def Y2 (as : List AV) : AH := B8 (thawL as 0).2.1 (TY (thawL as 0).2.2)
def cW (H : AH) : List AV → List Bool → Option (List AV × List Nat)
 | [], [] => some ([], [])
 | a :: as, true :: ms => match fo H a, cW H as ms with
   | some x, some y => some (x.1 :: y.1, x.2 ++ y.2)
   | _, _ => none
 | _ :: as, false :: ms => match cW H as ms with
   | some y => some (.bot :: y.1, y.2)
   | none => none
 | _, _ => none
def il (E : ES) : List Nat → List AV
 | [] => []
 | t :: ts => get E t :: il E ts
inductive RV where
 | t (n : Nat)
 | c (n : Nat) (ag : Bool) (k : Nat)
 deriving Inhabited
def lE (E : ES) (H : AH) : RV → Option AV
 | .t n => some (get E n)
 | .c n ag k => ald H ag k (get E n)
def U4 (E : ES) (H : AH) : List RV → Option (List AV)
 | [] => some []
 | r :: rs => (lE E H r).bind fun a => (U4 E H rs).map (a :: ·)
def Y3 (E : ES) (H : AH) : List RV → Option AV
 | [t] => lE E H t
 | ts => (U4 E H ts).map .tup
def bD : Nat → Nat → List Nat
 | _, 0 => []
 | k, n + 1 => k :: bD (k + 1) n
def Fin (rs : List RV) (n m : Nat) (ms : List Bool) (r : AV) (ups : List AV) (e : AExit) (E : ES) (H : AH) : Prop :=
 (e = .normal ∨ e = .ret) ∧ TD (Y3 E H rs) fun a => TD (fz H a) fun x => x.1 = r ∧ TD (cW H (il E (bD n m)) ms) fun y => y.1 = ups ∧ (x.2 ++ y.2).Nodup
def fI (P : Program) : List ResultVar → Option (List RV)
 | [] => some []
 | .tmp t :: rs => (fI P rs).map (.t t :: ·)
 | .cell a t :: rs => (P.underlying t).bind fun d => (P.info? t).bind fun i => (fI P rs).map (.c a (WQ d) i.size :: ·)
section
variable {P : Program} {md : Nat → List Bool}
theorem gO {w : World} {S : List Nat} {forb : Nat → Prop} {as : List AV} {us : List Value} (hr : RL (cin w S forb) as S us) (hnd : S.Nodup) (hlt : ∀ x ∈ S, x < w.heap.size) (hgb : GB w S forb) {n : Nat} (hn : as.length ≤ n) (rest : Array Value) (hrest : us.length + rest.size = n) :
  ∃ io B, Rel ⟨w, S, forb⟩ (toT (n + us.length) (eW n as)) (Y2 as) io B (us.toArray ++ rest ++ us.toArray) w := by
 obtain ⟨qs, hgv, hl⟩ := thawL_ok as (cin w S forb) 0 S us ⟨fun _ => rfl, rfl⟩ hr
 have hps : (prs qs).map (·.1) = qs.map (·.id) := by simp [prs]
 have hplt : ∀ p ∈ prs qs, p.1 < (TY (thawL as 0).2.2).length := by
  intro p hp
  obtain ⟨q, hq, rfl⟩ := List.mem_map.1 hp
  rw [MP]; exact (hgv.range q hq).2
 have hH : Y2 as = B8 (prs qs) (TY (thawL as 0).2.2) := by rw [Y2, hgv.ps]
 have hlen : (Y2 as).length = (thawL as 0).2.2 := by rw [hH, J4, MP]
 have hlive : ∀ i r, Live (Y2 as) i r ↔ ∃ q ∈ qs, q.id = i ∧ q.row = r := by
  intro i r
  rw [hH, FF _ _ _ _ (by rw [hps]; exact hgv.ids) hplt]
  constructor
  ·rintro (h | ⟨_, h⟩)
   ·obtain ⟨q, hq, he⟩ := List.mem_map.1 h
    simp only [Prod.mk.injEq] at he
    exact ⟨q, hq, he.1, he.2⟩
   ·exact absurd h (V7 _ _ _)
  ·rintro ⟨q, hq, rfl, rfl⟩
   exact .inl (List.mem_map.2 ⟨q, hq, rfl⟩)
 let io := ioQ qs fun _ => none
 let B := bQ qs [] fun _ => []
 have hioQ : ∀ q ∈ qs, io q.id = q.pl := by intro q hq; simp only [io, ioQ, PS hgv.ids hq]
 have hbQ : ∀ q ∈ qs, B q.id = q.bs := by intro q hq; simp only [B, bQ, PS hgv.ids hq]
 have hBm : ∀ i x, x ∈ B i → ∃ q ∈ qs, q.id = i ∧ x ∈ q.bs := by
  intro i x hx
  simp only [B, bQ] at hx
  cases hf : K9 qs i with
  | none => rw [hf] at hx; simp at hx
  | some q => rw [hf] at hx; obtain ⟨h3, h4⟩ := DZ hf; exact ⟨q, h3, h4, hx⟩
 have hBS : ∀ i x, x ∈ B i → x ∈ S := by
  intro i x hx
  obtain ⟨q, hq, _, h2⟩ := hBm i x hx
  rw [← hgv.bs]; exact List.mem_flatMap.2 ⟨q, hq, h2⟩
 have hlaid : Laid (cin w S forb) (ctx ⟨w, S, forb⟩ (Y2 as) io B w) qs (thawL as 0).2.2 := by
  refine ⟨rfl, ?_, hioQ, by show _ ≤ (Y2 as).length; rw [hlen]; exact Nat.le_refl _⟩
  intro c x hx hb
  match c, hx, hb with
  | 0, hx, hb =>
    rcases hb with ⟨i, hi⟩ | hb
    ·exact hx (.inl (hBS i x hi))
    ·exact hx (.inr hb)
  | 1, hx, ⟨i, hi⟩ => exact hx (hBS i x hi)
  | c + 2, hx, _ => exact hx trivial
 obtain ⟨hrl, hrows⟩ := hl _ hlaid
 have hul : us.length = as.length := hr.length
 have hal : (thawL as 0).1.length = us.length := hrl.length.symm
 refine ⟨io, B, ?_, ?_, ?_, ?_, ?_, ?_, ?_, ?_, ?_, Kept.refl _ _ _, hgb⟩
 ·simp [toT]; omega
 ·intro i av hi
  simp only [toT, List.getElem?_map] at hi
  by_cases hin : i < n + us.length
  ·simp only [List.getElem?_range hin, Option.map_some, Option.some.injEq] at hi
   subst hi
   unfold eW
   by_cases h1 : i < us.length
   ·rw [Pa _ 0 i _ (by omega) (by omega)]
    have h2 : i < (thawL as 0).1.length := by omega
    obtain ⟨S1, S2, S3, u, e1, e2, e3⟩ := hrl.get (i := i) (a := (thawL as 0).1[i]) (by simp [h2])
    refine ⟨u, ?_, ?_⟩
    ·rw [Array.getElem?_append_left (by simp; omega), Array.getElem?_append_left (by simpa using h1)]
     simpa using e2
    ·have : S2 = [] := by
      have := e1.symm
      simp at this; exact this.2.1
     subst this
     simpa [h2] using e3
   ·rw [V6 _ _ _ (fun p hp => by have := Z9 _ _ _ hp; omega)]
    rw [Z8]
    by_cases h3 : n ≤ i
    ·rw [if_pos h3]
     have h2 : i - n < (thawL as 0).1.length := by omega
     obtain ⟨S1, S2, S3, u, e1, e2, e3⟩ := hrl.get (i := i - n) (a := (thawL as 0).1[i - n]) (by simp [h2])
     refine ⟨u, ?_, ?_⟩
     ·rw [Array.getElem?_append_right (by simp; omega)]
      have : i - (us.toArray ++ rest).size = i - n := by simp; omega
      rw [this]
      simpa using e2
     ·have : S2 = [] := by
       have := e1.symm
       simp at this; exact this.2.1
      subst this
      simpa [h2] using e3
    ·rw [if_neg h3]
     have : i < (us.toArray ++ rest ++ us.toArray).size := by simp; omega
     exact ⟨_, Array.getElem?_eq_getElem this, by simp [R]⟩
  ·rw [List.getElem?_eq_none (by simpa using hin)] at hi; cases hi
 ·intro i r hlv
  obtain ⟨q, hq, rfl, rfl⟩ := (hlive i r).1 hlv
  rw [hioQ q hq, hbQ q hq]
  exact hrows q hq
 ·intro i hi
  show bQ qs [] _ i = []
  simp only [bQ]
  cases hf : K9 qs i with
  | none => simp
  | some q =>
    obtain ⟨h3, h4⟩ := DZ hf
    exact absurd ((hlive i q.row).2 ⟨q, h3, h4, rfl⟩) (hi q.row)
 ·intro i hi
  rw [hlen] at hi
  show ioQ qs _ i = none
  simp only [ioQ]
  cases hf : K9 qs i with
  | none => rfl
  | some q =>
    obtain ⟨h3, h4⟩ := DZ hf
    have := (hgv.range q h3).2
    omega
 ·intro i
  show (bQ qs [] _ i).Nodup
  simp only [bQ]
  cases hf : K9 qs i with
  | none => simp
  | some q =>
    obtain ⟨h3, _⟩ := DZ hf
    have hbs := hgv.bs
    have hsub : List.Sublist q.bs S := by
     rw [← hbs]
     obtain ⟨l1, l2, rfl⟩ := List.append_of_mem h3
     rw [List.flatMap_append, List.flatMap_cons]
     exact (List.sublist_append_left _ _).trans (List.sublist_append_right _ _)
    exact hsub.nodup hnd
 ·intro i j x hi hj
  obtain ⟨q, hq, h1, h2⟩ := hBm i x hi
  obtain ⟨q', hq', h3, h4⟩ := hBm j x hj
  have hbs := hgv.bs
  have aux : ∀ (l : List Q), q ∈ l → q' ∈ l → (l.flatMap (·.bs)).Nodup → q = q' := by
   intro l
   induction l with
   | nil => intro h; cases h
   | cons a l ih =>
     intro hm hm' hn
     rw [List.flatMap_cons, List.nodup_append] at hn
     rcases List.mem_cons.1 hm with e1 | m1 <;> rcases List.mem_cons.1 hm' with e2 | m2
     ·rw [e1, e2]
     ·subst e1; exact absurd rfl (hn.2.2 x h2 x (List.mem_flatMap.2 ⟨q', m2, h4⟩))
     ·subst e2; exact absurd rfl (hn.2.2 x h4 x (List.mem_flatMap.2 ⟨q, m1, h2⟩))
     ·exact ih m1 m2 hn.2.1
  rw [← h1, ← h3, aux qs hq hq' (by rw [hbs]; exact hnd)]
 ·intro i x hx
  exact hlt x (hBS i x hx)
 ·intro i x hx
  exact .inr (hBS i x hx)
end
section
variable {g : Env} {T : List AV} {H : AH} {io : Nat → Option (Nat × Nat)} {B : Nat → List Nat} {tmps : Array Value} {w : World}
theorem Wd (h : Rel g T H io B tmps w) : ∀ (as : List AV) (ms : List Bool) (us : List Value) (ups : List AV) (ks : List Nat), cW H as ms = some (ups, ks) → RL (ctx g H io B w) as [] us →
  ∃ S, RL ((ctx g H io B w).at 0) ups S us ∧ List.Sublist S (ks.flatMap B)
 | [], [], us, ups, ks, hf, hr => by
   simp only [cW] at hf; cases hf
   exact ⟨[], by rw [RL] at *; exact hr, by simp⟩
 | a :: as, true :: ms, us, ups, ks, hf, hr => by
   simp only [cW] at hf
   split at hf
   case h_2 => cases hf
   rename_i x y hx hy
   cases hf
   rw [RL] at hr
   obtain ⟨S1, S2, u, us', hSS, rfl, h1, h2⟩ := hr
   obtain ⟨rfl, rfl⟩ : S1 = [] ∧ S2 = [] := by simpa using hSS.symm
   obtain ⟨S3, h3, h4, _⟩ := iW h a x.1 x.2 u hx h1
   obtain ⟨S4, h6, h7⟩ := Wd h as ms us' y.1 y.2 hy h2
   exact ⟨S3 ++ S4, by rw [RL]; exact ⟨S3, S4, u, us', rfl, rfl, h3, h6⟩, by rw [List.flatMap_append]; exact h4.append h7⟩
 | a :: as, false :: ms, us, ups, ks, hf, hr => by
   simp only [cW] at hf
   split at hf
   case h_2 => cases hf
   rename_i y hy
   cases hf
   rw [RL] at hr
   obtain ⟨S1, S2, u, us', hSS, rfl, h1, h2⟩ := hr
   obtain ⟨rfl, rfl⟩ : S1 = [] ∧ S2 = [] := by simpa using hSS.symm
   obtain ⟨S4, h6, h7⟩ := Wd h as ms us' y.1 y.2 hy h2
   exact ⟨S4, by rw [RL]; exact ⟨[], S4, u, us', rfl, rfl, by rw [R], h6⟩, h7⟩
 | [], _ :: _, us, ups, ks, hf, hr => by simp [cW] at hf
 | _ :: _, [], us, ups, ks, hf, hr => by simp [cW] at hf
theorem Y4 {N : Nat} {E : ES} (h : Rel g (toT N E) H io B tmps w) : ∀ (ts : List Nat), (∀ t ∈ ts, t < N) → RL (ctx g H io B w) (il E ts) [] (ts.map fun t => tmps.getD t undef)
 | [], _ => by simp [il, RL]
 | t :: ts, ht => by
   rw [il, List.map_cons, RL]
   obtain ⟨u, hu, hr⟩ := h.get t
   rw [Hv (ht t (by simp))] at hr
   exact ⟨[], [], _, _, rfl, rfl, hu ▸ hr, Y4 h ts fun x hx => ht x (by simp [hx])⟩
end
theorem bE {P : Program} {t : TypeId} {u v : Value} {w w' : World} (h : (Instr.loadAt t u).run P w = .ok v w') : (do loadVar t (← asAddr u) : Sem Value).run P w = .ok v w' := by
 cases u
 case pointer a =>
  cases a with
  | none => simp [Instr.loadAt, Instr.sureAddr] at h
  | some a => simpa [Instr.loadAt, Instr.sureAddr, asAddr] using h
 all_goals (simp [Instr.loadAt, Instr.sureAddr] at h)
def rvN : RV → Nat
 | .t n => n
 | .c n _ _ => n
def cX (n : Nat) : List RV → Bool
 | [] => true
 | t :: ts => decide (rvN t < n) && cX n ts
theorem We {n : Nat} : ∀ {ts : List RV}, cX n ts = true → ∀ t ∈ ts, rvN t < n
 | [], _ => by simp
 | t :: ts, h => by
   simp only [cX, Bool.and_eq_true, decide_eq_true_eq] at h
   intro x hx
   rcases List.mem_cons.1 hx with rfl | hx
   ·exact h.1
   ·exact We h.2 x hx
def nV (tmps : Array Value) (F : ResultVar → Sem Value) : Prop := (∀ t, F (.tmp t) = pure (tmps.getD t undef)) ∧ ∀ a t, F (.cell a t) = (do loadVar t (← asAddr (tmps.getD a undef)))
theorem Wf {P : Program} {g : Env} {N n : Nat} {E : ES} {H : AH} {io : Nat → Option (Nat × Nat)} {B : Nat → List Nat} {tmps gh : Array Value} {w : World}
  (h : Rel g (toT N E) H io B (tmps ++ gh) w) (hs : tmps.size = n) (hN : n ≤ N) :
  ∀ (rs : List ResultVar) (ts : List RV) (as : List AV), fI P rs = some ts → (∀ t ∈ ts, rvN t < n) → U4 E H ts = some as →
    ∃ us, (∀ F, nV tmps F → (rs.mapM F).run P w = .ok us w) ∧ RL (ctx g H io B w) as [] us
 | [], ts, as, hc, _, hv => by
   simp only [fI, Option.some.injEq] at hc; subst hc
   simp only [U4, Option.some.injEq] at hv; subst hv
   exact ⟨[], fun _ _ => by simp, by rw [RL]; exact ⟨rfl, rfl⟩⟩
 | .tmp t :: rs, ts, as, hc, hl, hv => by
   simp only [fI, Option.map_eq_some_iff] at hc
   obtain ⟨ts', h1, rfl⟩ := hc
   simp only [U4, lE, Option.bind_some, Option.map_eq_some_iff] at hv
   obtain ⟨as', h2, rfl⟩ := hv
   obtain ⟨us, e1, e2⟩ := Wf h hs hN rs ts' as' h1 (fun x hx => hl x (by simp [hx])) h2
   have hlt : t < n := hl (.t t) (by simp)
   obtain ⟨u, hu, hr⟩ := h.get t
   rw [Hv (Nat.lt_of_lt_of_le hlt hN)] at hr
   have e3 : tmps.getD t undef = u := by
    rw [← hu]
    have h3 : t < tmps.size := by rw [hs]; exact hlt
    simp [Array.getD, h3, Array.getElem_append_left, Nat.lt_of_lt_of_le h3 (Nat.le_add_right _ _)]
   refine ⟨u :: us, fun F hF => by simp only [List.mapM_cons, hF.1, e3]; simp [e1 F hF], ?_⟩
   rw [RL]
   exact ⟨[], [], u, us, rfl, rfl, hr, e2⟩
 | .cell a t :: rs, ts, as, hc, hl, hv => by
   simp only [fI, Option.bind_eq_some_iff, Option.map_eq_some_iff] at hc
   obtain ⟨d, hd, i, hi, ts', h1, rfl⟩ := hc
   simp only [U4, lE, Option.bind_eq_some_iff, Option.map_eq_some_iff] at hv
   obtain ⟨av, hav, as', h2, rfl⟩ := hv
   obtain ⟨us, e1, e2⟩ := Wf h hs hN rs ts' as' h1 (fun x hx => hl x (by simp [hx])) h2
   have hlt : a < n := hl (.c a (WQ d) i.size) (by simp)
   obtain ⟨u, hu, hr⟩ := h.get a
   rw [Hv (Nat.lt_of_lt_of_le hlt hN)] at hr
   have e3 : tmps.getD a undef = u := by
    rw [← hu]
    have h3 : a < tmps.size := by rw [hs]; exact hlt
    simp [Array.getD, h3, Array.getElem_append_left, Nat.lt_of_lt_of_le h3 (Nat.le_add_right _ _)]
   obtain ⟨v, h4, h5⟩ := bt h hd hi hr hav
   have h6 := bE h4
   refine ⟨v :: us, fun F hF => by rw [List.mapM_cons, hF.2, e3]; simp only [Sem.run_bind] at h6 ⊢; simp [h6, e1 F hF], ?_⟩
   rw [RL]
   exact ⟨[], [], v, us, rfl, rfl, h5, e2⟩
theorem X6 {P : Program} {g : Env} {N n : Nat} {E : ES} {H : AH} {io : Nat → Option (Nat × Nat)} {B : Nat → List Nat} {tmps gh : Array Value} {w : World}
  (h : Rel g (toT N E) H io B (tmps ++ gh) w) (hs : tmps.size = n) (hN : n ≤ N) {fn : Func} {ts : List RV} {av : AV} (hc : fI P fn.results.toList = some ts) (hl : ∀ t ∈ ts, rvN t < n) (hv : Y3 E H ts = some av) :
  ∃ v, (results fn tmps).run P w = .ok v w ∧ R (ctx g H io B w) av [] v := by
 have key := Wf (P := P) h hs hN fn.results.toList ts
 unfold results
 rw [Array.mapM_eq_mapM_toList]
 match ts, hc, hl, hv, key with
 | [t], hc, hl, hv, key =>
   simp only [Y3] at hv
   obtain ⟨us, e1, e2⟩ := key [av] hc hl (by simp [U4, hv])
   obtain ⟨u, rfl, hr⟩ := RL.one e2
   refine ⟨u, ?_, hr⟩
   rw [Sem.run_bind, Sem.run_map, e1 _ ⟨fun _ => rfl, fun _ _ => rfl⟩]
   simp
 | [], hc, hl, hv, key =>
   simp only [Y3, U4, Option.map_some, Option.some.injEq] at hv
   subst hv
   obtain ⟨us, e1, e2⟩ := key [] hc hl rfl
   rw [RL] at e2
   obtain ⟨_, rfl⟩ := e2
   refine ⟨.tuple #[], ?_, by rw [R]; exact ⟨[], rfl, by rw [RL]; exact ⟨rfl, rfl⟩⟩⟩
   rw [Sem.run_bind, Sem.run_map, e1 _ ⟨fun _ => rfl, fun _ _ => rfl⟩]
   simp
 | t :: t2 :: ts, hc, hl, hv, key =>
   simp only [Y3, Option.map_eq_some_iff] at hv
   obtain ⟨as, h1, rfl⟩ := hv
   obtain ⟨us, e1, e2⟩ := key as hc hl h1
   have hlen := e2.length
   have hal : 2 ≤ as.length := by
    simp only [U4, Option.bind_eq_some_iff, Option.map_eq_some_iff] at h1
    obtain ⟨a, _, as', ⟨b, _, as'', _, rfl⟩, rfl⟩ := h1
    simp
   match us, hlen, e1, e2 with
   | [], hlen, _, _ => simp at hlen; omega
   | [u], hlen, _, _ => simp at hlen; omega
   | u :: u2 :: us, hlen, e1, e2 =>
     refine ⟨.tuple (u :: u2 :: us).toArray, ?_, by rw [R]; exact ⟨_, rfl, e2⟩⟩
     rw [Sem.run_bind, Sem.run_map, e1 _ ⟨fun _ => rfl, fun _ _ => rfl⟩]
     simp
theorem Y5 : ∀ (m k t : Nat), t ∈ bD k m → k ≤ t ∧ t < k + m
 | 0, k, t, h => by simp [bD] at h
 | m + 1, k, t, h => by
   simp only [bD, List.mem_cons] at h
   rcases h with rfl | h
   ·omega
   ·have := Y5 m (k + 1) t h; omega
theorem Wg {α : Type} (f : Nat → α) : ∀ (m k : Nat), (bD k m).map f = (List.range m).map fun i => f (k + i)
 | 0, k => rfl
 | m + 1, k => by
   rw [bD, List.map_cons, Wg f m (k + 1), List.range_succ_eq_map, List.map_cons, List.map_map]
   simp only [Nat.add_zero, List.cons.injEq, true_and]
   apply List.map_congr_left
   intro i _
   simp only [Function.comp]
   rw [show k + 1 + i = k + (i + 1) by omega]
def cFn (P : Program) (f : Nat) (n : Nat) (rs : List RV) (ac : ACode) : Prop :=
 ∃ fn code, P.funcs[f]? = some fn ∧ fn.body = some code ∧ fn.ntmps = n ∧ fI P fn.results.toList = some rs ∧ I8 P n code = some (erase ac) ∧ cX n rs = true
theorem gP {P : Program} {md : Nat → List Bool} {f n : Nat} {rs : List RV} {ac : ACode} (hc : cFn P f n rs ac) {as : List AV} {ms : List Bool} {post : AV → List AV → Prop} (hn : as.length ≤ n) {F : AExit → ES → AH → Prop} (hF : ∀ e E H, F e E H → ∃ r ups, post r ups ∧ Fin rs n as.length ms r ups e E H)
  (hk : awp P md ac F (eW n as) (Y2 as)) : SoundSet P f as post := by
 obtain ⟨fn, code, hfn, hbody, hnt, hres, hcode, hrs⟩ := hc
 intro w forb us S hr hnd hlt hforb
 have hul : us.length = as.length := hr.length
 obtain ⟨io, B, hrel⟩ := gO hr hnd hlt hforb.2 hn (Array.replicate (n - us.length) undef) (by simp; omega)
 refine calls_of_wp hfn hbody ?_
 rw [hnt]
 have hE : RelE n us.toArray ⟨w, S, forb⟩ (eW n as) (Y2 as) io B { tmps := us.toArray ++ Array.replicate (n - us.toArray.size) undef, defers := [] } w := by
  refine ⟨by simp; omega, by simpa using hrel, rfl⟩
 refine N2 (g := ⟨w, S, forb⟩) hforb.1 ac code hcode hE hk ?_
 intro e E' H' io' B' a' w' hA hR
 obtain ⟨r, ups, hpost, he, av0, hav, ⟨r0, ks1⟩, hfz, hr0, ⟨ups0, ks2⟩, hfin, hu0, hnd2⟩ := hF _ _ _ hA
 simp only at hr0 hu0
 subst hr0 hu0
 have hrel' := hR.rel
 have hgh := Y4 hrel' (bD n as.length) (fun t ht => by have := Y5 _ _ _ ht; simp; omega)
 have hus : ((bD n as.length).map fun t => (a'.tmps ++ us.toArray).getD t undef) = us := by
  rw [Wg]
  apply List.ext_getElem
  ·simp [hul]
  ·intro i h1 h2
   simp only [List.getElem_map, List.getElem_range]
   have hs := hR.size
   have : n + i < (a'.tmps ++ us.toArray).size := by simp; omega
   simp [Array.getD, this, Array.getElem_append_right, hs, h2]
 rw [hus] at hgh
 obtain ⟨S2, f1, f2⟩ := Wd hrel' _ ms us ups0 ks2 hfin hgh
 have hrun := X6 (P := P) hrel' hR.size (Nat.le_add_right _ _) hres (We hrs) hav
 obtain ⟨v, hv, hvr⟩ := hrun
 obtain ⟨S1, r1, r2⟩ := bq hrel' _ r0 ks1 v hfz hvr
 have hsub : List.Sublist (S1 ++ S2) ((ks1 ++ ks2).flatMap B') := by rw [List.flatMap_append]; exact r2.append f2
 have hmem : ∀ x ∈ S1 ++ S2, ∃ k, x ∈ B' k := fun x hx => by obtain ⟨k, _, hk⟩ := FE hsub hx; exact ⟨k, hk⟩
 have hst : Step ((ctx ⟨w, S, forb⟩ H' io' B' w').at 0) (Xt w' (S1 ++ S2) forb) := by
  refine ⟨Nat.le_refl _, ?_, fun _ _ hx => by simp [Ctx.at] at hx, Nat.le_refl _, fun _ _ => rfl, fun _ _ _ hr => hr⟩
  intro c b _ hbad
  simp only [Ctx.at, Classical.not_imp] at hbad
  obtain ⟨rfl, hbad⟩ := hbad
  refine ⟨?_, rfl⟩
  show ¬ (b ∈ S1 ++ S2 ∨ forb b)
  rintro (h1 | h1)
  ·exact hbad (.inl (hmem b h1))
  ·exact hbad (.inr h1)
 have hpost' : ∃ v S', Ending.returned v = .returned v ∧ RL (Xt w' S' forb) (r0 :: ups0) S' (v :: us) ∧ S'.Nodup ∧ (∀ x ∈ S', x < w'.heap.size ∧ (w.heap.size ≤ x ∨ x ∈ S)) ∧ Kept w.heap.size S w w' := by
  refine ⟨v, S1 ++ S2, rfl, ?_, hsub.nodup (hrel'.flat_nodup hnd2), ?_, hrel'.kept⟩
  ·rw [RL]
   exact ⟨S1, S2, v, us, rfl, rfl, R.step hst _ _ _ (fun _ _ => rfl) r1, RL.step hst _ _ _ (fun _ _ => rfl) f1⟩
  ·intro x hx
   obtain ⟨k, hk⟩ := hmem x hx
   exact ⟨hrel'.lt k x hk, hrel'.own k x hk⟩
 rcases he with rfl | rfl
 ·exact ⟨hR.defers, v, hv, r0, ups0, hpost, v, S1 ++ S2, rfl, by
   rw [RL]
   exact ⟨S1, S2, v, us, rfl, rfl, R.step hst _ _ _ (fun _ _ => rfl) r1, RL.step hst _ _ _ (fun _ _ => rfl) f1⟩, hsub.nodup (hrel'.flat_nodup hnd2), fun x hx => by
   obtain ⟨k, hk⟩ := hmem x hx
   exact ⟨hrel'.lt k x hk, hrel'.own k x hk⟩, hrel'.kept⟩
 ·exact ⟨hR.defers, v, hv, r0, ups0, hpost, v, S1 ++ S2, rfl, by
   rw [RL]
   exact ⟨S1, S2, v, us, rfl, rfl, R.step hst _ _ _ (fun _ _ => rfl) r1, RL.step hst _ _ _ (fun _ _ => rfl) f1⟩, hsub.nodup (hrel'.flat_nodup hnd2), fun x hx => by
   obtain ⟨k, hk⟩ := hmem x hx
   exact ⟨hrel'.lt k x hk, hrel'.own k x hk⟩, hrel'.kept⟩
theorem AE {P : Program} {md : Nat → List Bool} {f n : Nat} {rs : List RV} {ac : ACode} (hc : cFn P f n rs ac) {as : List AV} {ms : List Bool} {r : AV} {ups : List AV} (hn : as.length ≤ n)
  (hk : awp P md ac (Fin rs n as.length ms r ups) (eW n as) (Y2 as)) : SoundAt P f as r ups :=
 SoundSet.at (gP hc hn (F := Fin rs n as.length ms r ups) (fun _ _ _ hf => ⟨r, ups, ⟨rfl, rfl⟩, hf⟩) hk)
def nW (rs : List RV) (n m : Nat) (ms : List Bool) (post : AV → List AV → Prop) (e : AExit) (E : ES) (H : AH) : Prop := ∃ r ups, post r ups ∧ Fin rs n m ms r ups e E H
theorem lF {P : Program} {md : Nat → List Bool} {f n : Nat} {rs : List RV} {ac : ACode} (hc : cFn P f n rs ac) {as : List AV} {ms : List Bool} {post : AV → List AV → Prop} (hn : as.length ≤ n)
  (hk : awp P md ac (nW rs n as.length ms post) (eW n as) (Y2 as)) : SoundSet P f as post :=
 gP hc hn (F := nW rs n as.length ms post) (fun _ _ _ hf => hf) hk
abbrev AOper.m (d t : Nat) : AOper := ⟨some d, .mv, [.t t], none⟩
abbrev AOper.mg (d t s : Nat) (b : Bool) : AOper := ⟨some d, .mv, [.t t], some (s, b)⟩
abbrev AOper.l (d t : Nat) : AOper := ⟨some d, .load false 1, [.t t], none⟩
abbrev AOper.f (d o t : Nat) : AOper := ⟨some d, .fadr o, [.t t], none⟩
abbrev AOper.e (d i t : Nat) : AOper := ⟨some d, .extr i, [.t t], none⟩
abbrev AOper.o (d : Nat) (k : AK) (xs : List Opd) : AOper := ⟨some d, k, xs, none⟩
abbrev AOper.g (d : Nat) (k : AK) (xs : List Opd) (s : Nat) (b : Bool) : AOper := ⟨some d, k, xs, some (s, b)⟩
abbrev AOper.s (k : AK) (xs : List Opd) : AOper := ⟨none, k, xs, none⟩
abbrev AOper.lg (d t s : Nat) (b : Bool) : AOper := ⟨some d, .load false 1, [.t t], some (s, b)⟩
abbrev AOper.fg (d o t s : Nat) (b : Bool) : AOper := ⟨some d, .fadr o, [.t t], some (s, b)⟩
abbrev AOper.la (d k t : Nat) : AOper := ⟨some d, .load true k, [.t t], none⟩
abbrev AOper.n (d t : Nat) : AOper := ⟨some d, .len false, [.t t], none⟩
abbrev bz : List AV := [.v (.int .i64 (0)), .v (.int .i64 (0)), .os 1 [], .os 1 [], .os 1 [], .os 1 []]
abbrev rz : List AV := [.v (.int .i64 (0)), .v (.int .i64 (0)), .os 1 []]
abbrev dz : List AV := [.v (.int .i64 (0)), .v (.int .i64 (0)), .v (.int .i64 (0))]
abbrev Opd.kb (b : Bool) : Opd := .c (.v (.bool b))
abbrev Opd.k (n : Int) : Opd := .c (.v (.int .i64 n))
abbrev Plan.al (o : AOper) (p : Plan) : Plan := .alt o p .stop
def Da (K : ES → AH → Prop) (E : ES) (dst : Option Nat) (o : Option (AV × AH)) : Prop := TD o fun r => K (Ec E dst r.1) r.2
def Y6 (K : ES → AH → Prop) (E : ES) (dst : Option Nat) (H : AH) (c x y : AV) : Prop := PU c x y fun av => K (Ec E dst av) H
def F5 (P : Program) (md : Nat → List Bool) (o : AOper) (s : Nat) (want : Bool) (K : ES → AH → Prop) (E : ES) (H : AH) (v : AV) : Prop := match v with
 | .v (.bool b) => (b = want → Ho P md o (Ec E (some s) (.v (.bool want))) H K) ∧ (b = !want → K (Ec (Ec E (some s) (.v (.bool (!want)))) o.dst (.v undef)) H)
 | .v (.tuple _) => K (Ec E o.dst (.v undef)) H
 | _ => False
def Y7 (P : Program) (md : Nat → List Bool) (a b : ACode) (Q : AExit → ES → AH → Prop) (E : ES) (H : AH) (v : AV) : Prop := ∃ t, v = .v (.bool t) ∧ (t = true → awp P md a Q E H) ∧ (t = false → awp P md b Q E H)
def cY (P : Program) (md : Nat → List Bool) (E : ES) (H : AH) (dst : Option Nat) (K : ES → AH → Prop) (f : AV) (avs : List AV) : Prop := match f with
 | .fn f cs => cL P f = true ∧ JC P f (mdP (md f) (avs ++ cs)) (avs ++ cs) E H dst K
 | _ => False
section
variable {P : Program} {md : Nat → List Bool} {K : ES → AH → Prop} {Q : AExit → ES → AH → Prop} {E : ES} {H : AH}
@[simp] theorem j1 {dst : Option Nat} {av : AV} {H' : AH} : Da K E dst (some (av, H')) = K (Ec E dst av) H' := by simp [Da, TD]
@[simp] theorem j2 {dst : Option Nat} : Da K E dst none = False := by simp [Da, TD]
@[simp] theorem lG {dst : Option Nat} {c : Prop} [Decidable c] {o : Option (AV × AH)} : Da K E dst (if c then o else none) = (c ∧ Da K E dst o) := by
  by_cases h : c <;> simp [h]
@[simp] theorem fJ {dst : Option Nat} {α : Type} {c : Prop} [Decidable c] {o : Option α} {f : α → AV × AH} : Da K E dst (Option.map f (if c then o else none)) = (c ∧ Da K E dst (Option.map f o)) := by
  by_cases h : c <;> simp [h]
@[simp] theorem eX {dst : Option Nat} {α β : Type} {c : Prop} [Decidable c] {o : Option α} {f : α → β} {f' : β → AV × AH} : Da K E dst (Option.map f' (Option.map f (if c then o else none))) = (c ∧ Da K E dst (Option.map f' (Option.map f o))) := by
  by_cases h : c <;> simp [h]
@[simp] theorem j3 {dst : Option Nat} {x y : AV} : Y6 K E dst H (.v (.bool true)) x y = K (Ec E dst x) H := by simp [Y6, PU]
@[simp] theorem ip {dst : Option Nat} {x y : AV} : Y6 K E dst H (.v (.bool false)) x y = K (Ec E dst y) H := by simp [Y6, PU]
@[simp 500] theorem j4 {dst : Option Nat} {b : Bool} {x y : AV} : Y6 K E dst H (.v (.bool b)) x y = ((b = true → K (Ec E dst x) H) ∧ (b = false → K (Ec E dst y) H)) := by simp [Y6, PU]
@[simp] theorem lH {o : AOper} {s : Nat} : F5 P md o s true K E H (.v (.bool true)) = Ho P md o (Ec E (some s) (.v (.bool true))) H K := by simp [F5]
@[simp] theorem lI {o : AOper} {s : Nat} : F5 P md o s false K E H (.v (.bool false)) = Ho P md o (Ec E (some s) (.v (.bool false))) H K := by simp [F5]
@[simp] theorem lJ {o : AOper} {s : Nat} : F5 P md o s true K E H (.v (.bool false)) = K (Ec (Ec E (some s) (.v (.bool false))) o.dst (.v undef)) H := by simp [F5]
@[simp] theorem lK {o : AOper} {s : Nat} : F5 P md o s false K E H (.v (.bool true)) = K (Ec (Ec E (some s) (.v (.bool true))) o.dst (.v undef)) H := by simp [F5]
@[simp] theorem gQ {o : AOper} {s : Nat} {w : Bool} {vs : Array Value} : F5 P md o s w K E H (.v (.tuple vs)) = K (Ec E o.dst (.v undef)) H := by simp [F5]
@[simp] theorem gR {o : AOper} {s : Nat} {w : Bool} : F5 P md o s w K E H (.v undef) = K (Ec E o.dst (.v undef)) H := by simp [F5, undef]
@[simp 500] theorem iq {o : AOper} {s : Nat} {w b : Bool} : F5 P md o s w K E H (.v (.bool b)) = ((b = w → Ho P md o (Ec E (some s) (.v (.bool w))) H K) ∧ (b = !w → K (Ec (Ec E (some s) (.v (.bool (!w)))) o.dst (.v undef)) H)) := by simp [F5]
@[simp] theorem j5 {a b : ACode} : Y7 P md a b Q E H (.v (.bool true)) = awp P md a Q E H := by simp [Y7]
@[simp] theorem ir {a b : ACode} : Y7 P md a b Q E H (.v (.bool false)) = awp P md b Q E H := by simp [Y7]
@[simp 500] theorem j6 {a b : ACode} {t : Bool} : Y7 P md a b Q E H (.v (.bool t)) = ((t = true → awp P md a Q E H) ∧ (t = false → awp P md b Q E H)) := by simp [Y7]
@[simp] theorem lL {dst : Option Nat} {f : Nat} {cs avs : List AV} : cY P md E H dst K (.fn f cs) avs = (cL P f = true ∧ JC P f (mdP (md f) (avs ++ cs)) (avs ++ cs) E H dst K) := (rfl)
@[simp] theorem lM {dst : Option Nat} {ng : Bool} {x : Opd} {g : Option (Nat × Bool)} : Ho P md ⟨dst, .nilq ng, [x], g⟩ E H K = az K E dst H ng (evE E x) := (rfl)
@[simp] theorem mh {dst : Option Nat} {ng : Bool} {c sz : Nat} {es : List AV} : az K E dst H ng (.sl c sz es) = ((es.length ≠ 0 → K (Ec E dst (.v (.bool ng))) H) ∧ (es.length = 0 → K (Ec E dst (.v (.bool ng))) H ∧ K (Ec E dst (.v (.bool (!ng)))) H)) := by
  simp only [az, k8, Option.some.injEq, exists_eq_left']
@[simp] theorem mi {dst : Option Nat} {ng : Bool} {sz id off n : Nat} : az K E dst H ng (.ls sz id off n) = ((n ≠ 0 → K (Ec E dst (.v (.bool ng))) H) ∧ (n = 0 → K (Ec E dst (.v (.bool ng))) H ∧ K (Ec E dst (.v (.bool (!ng)))) H)) := by
  simp only [az, k8, Option.some.injEq, exists_eq_left']
@[simp] theorem nX {dst : Option Nat}  {xs : List Opd} {g : Option (Nat × Bool)} : Ho P md ⟨dst, .mv, xs, g⟩ E H K = Da K E dst (aop .mv (xs.map (evE E)) H) := (rfl)
@[simp] theorem j7 {dst : Option Nat} {zs : List AV} {xs : List Opd} {g : Option (Nat × Bool)} : Ho P md ⟨dst, (.alloc zs), xs, g⟩ E H K = Da K E dst (aop (.alloc zs) (xs.map (evE E)) H) := (rfl)
@[simp] theorem mj {dst : Option Nat}  {xs : List Opd} {g : Option (Nat × Bool)} : Ho P md ⟨dst, .box, xs, g⟩ E H K = Da K E dst (aop .box (xs.map (evE E)) H) := (rfl)
@[simp] theorem j8 {dst : Option Nat} {cs : List AV} {ps : List (Nat × Nat)} {xs : List Opd} {g : Option (Nat × Bool)} : Ho P md ⟨dst, (.build cs ps), xs, g⟩ E H K = Da K E dst (aop (.build cs ps) (xs.map (evE E)) H) := (rfl)
@[simp] theorem ml {dst : Option Nat} {sz : Nat} {xs : List Opd} {g : Option (Nat × Bool)} : Ho P md ⟨dst, (.bsl sz), xs, g⟩ E H K = Da K E dst (aop (.bsl sz) (xs.map (evE E)) H) := (rfl)
@[simp] theorem lN {dst : Option Nat} {ag : Bool} {k : Nat} {xs : List Opd} {g : Option (Nat × Bool)} : Ho P md ⟨dst, (.load ag k), xs, g⟩ E H K = Da K E dst (aop (.load ag k) (xs.map (evE E)) H) := (rfl)
@[simp] theorem j9 {dst : Option Nat} {k : Nat} {xs : List Opd} {g : Option (Nat × Bool)} : Ho P md ⟨dst, (.store k), xs, g⟩ E H K = Da K E dst (aop (.store k) (xs.map (evE E)) H) := (rfl)
@[simp] theorem kA {dst : Option Nat}  {xs : List Opd} {g : Option (Nat × Bool)} : Ho P md ⟨dst, .nilck, xs, g⟩ E H K = Da K E dst (aop .nilck (xs.map (evE E)) H) := (rfl)
@[simp] theorem mm {dst : Option Nat} {op : BinOp} {kd : Nat} {xs : List Opd} {g : Option (Nat × Bool)} : Ho P md ⟨dst, (.bin op kd), xs, g⟩ E H K = Da K E dst (aop (.bin op kd) (xs.map (evE E)) H) := (rfl)
@[simp] theorem nY {dst : Option Nat} {op : UnOp} {xs : List Opd} {g : Option (Nat × Bool)} : Ho P md ⟨dst, (.un op), xs, g⟩ E H K = Da K E dst (aop (.un op) (xs.map (evE E)) H) := (rfl)
@[simp] theorem lO {dst : Option Nat} {k : IntKind} {xs : List Opd} {g : Option (Nat × Bool)} : Ho P md ⟨dst, (.conv k), xs, g⟩ E H K = Da K E dst (aop (.conv k) (xs.map (evE E)) H) := (rfl)
@[simp] theorem mo {dst : Option Nat} {xs : List Opd} {g : Option (Nat × Bool)} : Ho P md ⟨dst, .str, xs, g⟩ E H K = Da K E dst (aop .str (xs.map (evE E)) H) := (rfl)
@[simp] theorem lP {dst : Option Nat} {f : Nat} {xs : List Opd} {g : Option (Nat × Bool)} : Ho P md ⟨dst, (.mkfn f), xs, g⟩ E H K = Da K E dst (aop (.mkfn f) (xs.map (evE E)) H) := (rfl)
@[simp] theorem lQ {dst : Option Nat} {sz b : Nat} {ze : AV} {xs : List Opd} {g : Option (Nat × Bool)} : Ho P md ⟨dst, (.mksl sz b ze), xs, g⟩ E H K = Da K E dst (aop (.mksl sz b ze) (xs.map (evE E)) H) := (rfl)
@[simp] theorem kB {dst : Option Nat} {sz : Nat} {z lo hi mx : Bool} {xs : List Opd} {g : Option (Nat × Bool)} : Ho P md ⟨dst, (.slice sz z lo hi mx), xs, g⟩ E H K = Da K E dst (aop (.slice sz z lo hi mx) (xs.map (evE E)) H) := (rfl)
@[simp] theorem iu {dst : Option Nat} {lo hi : Bool} {xs : List Opd} {g : Option (Nat × Bool)} : Ho P md ⟨dst, (.sslice lo hi), xs, g⟩ E H K = Da K E dst (aop (.sslice lo hi) (xs.map (evE E)) H) := (rfl)
@[simp] theorem lR {dst : Option Nat} {off : Nat} {xs : List Opd} {g : Option (Nat × Bool)} : Ho P md ⟨dst, (.fadr off), xs, g⟩ E H K = Da K E dst (aop (.fadr off) (xs.map (evE E)) H) := (rfl)
@[simp] theorem lS {dst : Option Nat} {sz : Nat} {xs : List Opd} {g : Option (Nat × Bool)} : Ho P md ⟨dst, (.iadr sz), xs, g⟩ E H K = Da K E dst (aop (.iadr sz) (xs.map (evE E)) H) := (rfl)
@[simp] theorem mp {dst : Option Nat} {ag : Bool} {k off : Nat} {xs : List Opd} {g : Option (Nat × Bool)} : Ho P md ⟨dst, (.fld ag k off), xs, g⟩ E H K = Da K E dst (aop (.fld ag k off) (xs.map (evE E)) H) := (rfl)
@[simp] theorem mq {dst : Option Nat} {ag : Bool} {k len : Nat} {xs : List Opd} {g : Option (Nat × Bool)} : Ho P md ⟨dst, (.idx ag k len), xs, g⟩ E H K = Da K E dst (aop (.idx ag k len) (xs.map (evE E)) H) := (rfl)
@[simp] theorem lT {dst : Option Nat}  {xs : List Opd} {g : Option (Nat × Bool)} : Ho P md ⟨dst, .sidx, xs, g⟩ E H K = Da K E dst (aop .sidx (xs.map (evE E)) H) := (rfl)
@[simp] theorem lU {dst : Option Nat} {i : Nat} {xs : List Opd} {g : Option (Nat × Bool)} : Ho P md ⟨dst, (.extr i), xs, g⟩ E H K = Da K E dst (aop (.extr i) (xs.map (evE E)) H) := (rfl)
@[simp] theorem mr {dst : Option Nat} {str : Bool} {xs : List Opd} {g : Option (Nat × Bool)} : Ho P md ⟨dst, (.len str), xs, g⟩ E H K = Da K E dst (aop (.len str) (xs.map (evE E)) H) := (rfl)
@[simp] theorem mt {dst : Option Nat} {sz b : Nat} {fl : Bool} {xs : List Opd} {g : Option (Nat × Bool)} : Ho P md ⟨dst, (.app sz b fl), xs, g⟩ E H K = Da K E dst (aop (.app sz b fl) (xs.map (evE E)) H) := (rfl)
@[simp] theorem mu {dst : Option Nat} {mn : Bool} {xs : List Opd} {g : Option (Nat × Bool)} : Ho P md ⟨dst, (.mnx mn), xs, g⟩ E H K = Da K E dst (aop (.mnx mn) (xs.map (evE E)) H) := (rfl)
@[simp] theorem lV {dst : Option Nat} {xs : List Opd} {g : Option (Nat × Bool)} : Ho P md ⟨dst, .copy, xs, g⟩ E H K = Da K E dst (aop .copy (xs.map (evE E)) H) := (rfl)
@[simp] theorem lW {dst : Option Nat} {c x y : Opd} {g : Option (Nat × Bool)} : Ho P md ⟨dst, .pick, [c, x, y], g⟩ E H K = Y6 K E dst H (evE E c) (evE E x) (evE E y) := (rfl)
@[simp] theorem lX {dst : Option Nat} {f : Nat} {ms : List Bool} {xs : List Opd} {g : Option (Nat × Bool)} : Ho P md ⟨dst, .call f ms, xs, g⟩ E H K = JC P f (mdP (md f) (xs.map (evE E))) (xs.map (evE E)) E H dst K := (rfl)
@[simp] theorem kC {dst : Option Nat} {ms : List Bool} {f : Opd} {xs : List Opd} {g : Option (Nat × Bool)} : Ho P md ⟨dst, .callv ms, f :: xs, g⟩ E H K = cY P md E H dst K (evE E f) (xs.map (evE E)) := by
  unfold Ho cY
  simp only [List.map_cons]
  split <;> simp_all
@[simp] theorem kD : Hw P md [] K E H = K E H := (rfl)
@[simp] theorem iv {dst : Option Nat} {k : AK} {xs : List Opd} {os : List AOper} : Hw P md (⟨dst, k, xs, none⟩ :: os) K E H = Ho P md ⟨dst, k, xs, none⟩ E H (Hw P md os K) := (rfl)
@[simp] theorem iw {dst : Option Nat} {k : AK} {xs : List Opd} {s : Nat} {w : Bool} {os : List AOper} : Hw P md (⟨dst, k, xs, some (s, w)⟩ :: os) K E H = F5 P md ⟨dst, k, xs, some (s, w)⟩ s w (Hw P md os K) E H (get E s) := (rfl)
@[simp] theorem mw : awp P md .skip Q E H = Q .normal E H := (rfl)
@[simp] theorem nZ {os : List AOper} : awp P md (.reg os) Q E H = Hw P md os (Q .normal) E H := (rfl)
@[simp] theorem na {os : List (Tag × AOper)} : awp P md (.own os) Q E H = Yz P md os none (Q .normal) E H := (rfl)
@[simp] theorem my {pin : Option (Nat × Value)} : Yz P md [] pin K E H = K E H := (rfl)
@[simp] theorem nc {pin : Option (Nat × Value)} {dst : Option Nat} {k : AK} {xs : List Opd} {os : List (Tag × AOper)} : Yz P md ((.op, ⟨dst, k, xs, none⟩) :: os) pin K E H = (WZ pin dst ∧ Ho P md ⟨dst, k, xs, none⟩ E H (Yz P md os pin K)) := (rfl)
@[simp] theorem mz {pin : Option (Nat × Value)} {dst : Option Nat} {k : AK} {xs : List Opd} {s : Nat} {w : Bool} {os : List (Tag × AOper)} : Yz P md ((.op, ⟨dst, k, xs, some (s, w)⟩) :: os) pin K E H = (WZ pin dst ∧ F5 P md ⟨dst, k, xs, some (s, w)⟩ s w (Yz P md os pin K) E H (get E s)) := (rfl)
@[simp] theorem lY {pin : Option (Nat × Value)} {p : Nat} {dst : Option Nat} {k : AK} {xs : List Opd} {os : List (Tag × AOper)} : Yz P md ((.back p, ⟨dst, k, xs, none⟩) :: os) pin K E H = (WZ pin dst ∧ Ho P md ⟨dst, k, xs, none⟩ E H (Z4 p pin (Yz P md os none K))) := (rfl)
theorem TZ {pin : Option (Nat × Value)} {d p : Nat} {os : List (Tag × AOper)} {id i sz' : Nat} {es xs : List AV} (h1 : get E p = .lp 1 id i 0) (h2 : H[id]? = some (some (.arr 1 es))) (h3 : es[i]? = some (.os sz' xs))
  (h : ∀ u, Yz P md os (some (d, u)) K (Ec (B9 E) (some d) (.ls sz' H.length 0 xs.length)) (Oz H id i sz' es xs u)) : Yz P md ((.take, ⟨some d, .load false 1, [.t p], none⟩) :: os) pin K E H :=
 ⟨d, p, id, i, es, sz', xs, rfl, h1, h2, h3, h⟩
@[simp] theorem kE {dst : Option Nat} : WZ none dst = True := by cases dst <;> rfl
@[simp] theorem kF {pin : Option (Nat × Value)} : WZ pin none = True := by cases pin <;> rfl
@[simp] theorem kG {d e : Nat} {u : Value} : WZ (some (d, u)) (some e) = (d ≠ e) := (rfl)
@[simp] theorem m5 : awp P md .fail Q E H = False := (rfl)
@[simp] theorem m6 {p : Plan} : awp P md (.draw p) Q E H = Cv P md p (Q .normal) E H := (rfl)
@[simp] theorem gS : Cv P md .done K E H = K E H := (rfl)
@[simp] theorem gT : Cv P md .stop K E H = True := (rfl)
@[simp] theorem ix {o : AOper} {p q : Plan} : Cv P md (.alt o p q) K E H = (Cv P md (.take o p) K E H ∧ Cv P md q K E H) := (rfl)
@[simp] theorem gU {dst : Option Nat} {k : AK} {xs : List Opd} {p : Plan} : Cv P md (.take ⟨dst, k, xs, none⟩ p) K E H = Ho P md ⟨dst, k, xs, none⟩ E H (Cv P md p K) := (rfl)
@[simp] theorem gV {dst : Option Nat} {k : AK} {xs : List Opd} {s : Nat} {w : Bool} {p : Plan} : Cv P md (.take ⟨dst, k, xs, some (s, w)⟩ p) K E H = F5 P md ⟨dst, k, xs, some (s, w)⟩ s w (Cv P md p K) E H (get E s) := (rfl)
@[simp] theorem ne {a b : ACode} : awp P md (.seq a b) Q E H = awp P md a (X0 (awp P md b Q) Q) E H := (rfl)
@[simp] theorem m7 {c : Opd} {a b : ACode} : awp P md (.cond c a b) Q E H = Y7 P md a b Q E H (evE E c) := (rfl)
@[simp] theorem lZ {id : Nat} {a : ACode} : awp P md (.block id a) Q E H = awp P md a (PY id Q) E H := (rfl)
@[simp] theorem m8 {phs : List (Nat × Nat)} {live : List Nat} {a : ACode} : awp P md (.loop phs live a) Q E H = GN phs live E H (EO phs live (awp P md a) Q) := (rfl)
@[simp] theorem m9 {id : Nat} : awp P md (.exit id) Q E H = Q (.exit id) E H := (rfl)
@[simp] theorem nf : awp P md .ret Q E H = Q .ret E H := (rfl)
@[simp] theorem oS {a : ACode} : awp P md (.lg a) Q E H = Lg (awp P md a Q) E H := (rfl)
@[simp] theorem oT {phs : List (Nat × Nat)} {live : List Nat} {a : ACode} : awp P md (.gc phs live a) Q E H = GN phs live E H (awp P md a Q) := (rfl)
@[simp] theorem R7 : X0 K Q .normal = K := (rfl)
@[simp] theorem kH {id : Nat} : X0 K Q (.exit id) = Q (.exit id) := (rfl)
@[simp] theorem lb : X0 K Q .ret = Q .ret := (rfl)
@[simp] theorem fK {id : Nat} : PY id Q .normal = Q .normal := (rfl)
@[simp] theorem kI {id : Nat} : PY id Q .ret = Q .ret := (rfl)
@[simp] theorem Ta {id id' : Nat} : PY id Q (.exit id') = if id' = id then Q .normal else Q (.exit id') := (rfl)
@[simp] theorem gW {phs : List (Nat × Nat)} {live : List Nat} {I : Nat → ES → AH → Prop} {n : Nat} : cS phs live I n Q .normal E H = GN phs live E H (C6 I n) := (rfl)
@[simp] theorem kJ {phs : List (Nat × Nat)} {live : List Nat} {I : Nat → ES → AH → Prop} {n id : Nat} : cS phs live I n Q (.exit id) E H = Q (.exit id) E H := (rfl)
@[simp] theorem lc {phs : List (Nat × Nat)} {live : List Nat} {I : Nat → ES → AH → Prop} {n : Nat} : cS phs live I n Q .ret E H = Q .ret E H := (rfl)
theorem AF {phs : List (Nat × Nat)} {live : List Nat} {body : (AExit → ES → AH → Prop) → ES → AH → Prop} (I : Nat → ES → AH → Prop) (n : Nat) (h0 : I n E H)
  (round : ∀ J : Nat → ES → AH → Prop, (∀ m E H, I m E H → J m E H) → ∀ n E H, I n E H → body (cS phs live J n Q) E H) : EO phs live body Q E H :=
 ⟨I, n, h0, round I fun _ _ _ h => h⟩
end
@[simp] theorem lh {α : Type} {x : α} {K : α → Prop} : TD (some x) K = K x := by simp [TD]
@[simp] theorem lj {α : Type} {K : α → Prop} : TD none K = False := by simp [TD]
@[simp] theorem nh (as : List AV) : mdP [] as = as.map fun _ => false := (rfl)
@[simp] theorem nA (b : Bool) (bs : List Bool) (as : List AV) : mdP (b :: bs) as = b :: bs := (rfl)
attribute [simp] agI evE Ec get aop Fin Y3 lE U4 il bD cW fz fzL fo foL eW Y2 thawL Hu cV B8 TY GN Yy Yx lB fE cR ij idsOfL mf ii ren renL Ys Z3 cQ TW B9 I7 purgeL gI isV eS aq aUn
attribute [simp] ald ldc Ab
end Go.Proofs.Dev
