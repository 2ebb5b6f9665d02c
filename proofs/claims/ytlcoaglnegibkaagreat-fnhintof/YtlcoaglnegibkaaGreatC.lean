/- Contracts of the functions of the program over slots and rows, each proved against the program itself; no condition beyond those that each theorem names. -/
import Derived.Test.YtlcoaglnegibkaaGreatB

set_option linter.unusedSimpArgs false
set_option linter.unusedVariables false

namespace Go.Proofs.Dev

def cin (w : World) (S : List Nat) (forb : Nat → Prop) : Ctx := ⟨w, fun c x => match c with | 0 => x ∈ S ∨ forb x | 1 => x ∈ S | _ => True, fun _ => none, 0⟩
def cout (w : World) (S : List Nat) (forb : Nat → Prop) : Ctx := ⟨w, fun c x => match c with | 0 => x ∈ S ∨ forb x | _ => True, fun _ => none, 0⟩

/-- A contract: called with what reads as 'as', in whatever world, the function returns what reads as 'r'; what was lent reads as 'ups' then (.bot where nothing was lent). -/
def SoundAt (P : Program) (f : Nat) (as : List AV) (r : AV) (ups : List AV) : Prop :=
  ∀ (w : World) (forb : Nat → Prop) (us : List Value) (S : List Nat), RL (cin w S forb) as S us → S.Nodup → (∀ x ∈ S, x < w.heap.size) → (∀ x, forb x → x < w.heap.size) →
    Calls P f us.toArray w fun e w' => ∃ v S', e = .returned v ∧ RL (cout w' S' forb) (r :: ups) S' (v :: us) ∧ S'.Nodup ∧ (∀ x ∈ S', x < w'.heap.size ∧ (w.heap.size ≤ x ∨ x ∈ S)) ∧ Kept w.heap.size S w w'

/-- A contract that leaves open what is given back, within bounds. -/
def SoundSet (P : Program) (f : Nat) (as : List AV) (post : AV → List AV → Prop) : Prop :=
  ∀ (w : World) (forb : Nat → Prop) (us : List Value) (S : List Nat), RL (cin w S forb) as S us → S.Nodup → (∀ x ∈ S, x < w.heap.size) → (∀ x, forb x → x < w.heap.size) →
    Calls P f us.toArray w fun e w' => ∃ r ups, post r ups ∧ ∃ v S', e = .returned v ∧ RL (cout w' S' forb) (r :: ups) S' (v :: us) ∧ S'.Nodup ∧ (∀ x ∈ S', x < w'.heap.size ∧ (w.heap.size ≤ x ∨ x ∈ S)) ∧ Kept w.heap.size S w w'

theorem SoundAt.set {P : Program} {f : Nat} {as : List AV} {r : AV} {ups : List AV} (h : SoundAt P f as r ups) : SoundSet P f as fun r' ups' => r' = r ∧ ups' = ups := by
  intro w forb us S h1 h2 h3 h4
  refine Calls.mono (h w forb us S h1 h2 h3 h4) ?_
  intro e w' h5
  exact ⟨r, ups, ⟨rfl, rfl⟩, h5⟩
theorem SoundSet.at {P : Program} {f : Nat} {as : List AV} {r : AV} {ups : List AV} (h : SoundSet P f as fun r' ups' => r' = r ∧ ups' = ups) : SoundAt P f as r ups := by
  intro w forb us S h1 h2 h3 h4
  refine Calls.mono (h w forb us S h1 h2 h3 h4) ?_
  rintro e w' ⟨_, _, ⟨rfl, rfl⟩, h5⟩
  exact h5
theorem SoundSet.mono {P : Program} {f : Nat} {as : List AV} {p q : AV → List AV → Prop} (hpq : ∀ r ups, p r ups → q r ups) (h : SoundSet P f as p) : SoundSet P f as q := by
  intro w forb us S h1 h2 h3 h4
  refine Calls.mono (h w forb us S h1 h2 h3 h4) ?_
  rintro e w' ⟨r, ups, h5, h6⟩
  exact ⟨r, ups, hpq r ups h5, h6⟩

/-! Views that may not outlast a loan. -/
mutual
def purge : AV → AV
  | .sl c sz es => if c ≤ 1 then .sl c sz es else .bot
  | .vp c cs o => if c ≤ 1 then .vp c cs o else .bot
  | .agg cs => .agg (purgeL cs)
  | .tup cs => .tup (purgeL cs)
  | .fn f cs => .fn f (purgeL cs)
  | a => a
def purgeL : List AV → List AV
  | [] => []
  | a :: as => purge a :: purgeL as
end

def purgeR : Row → Row
  | .box cs => .box (purgeL cs)
  | r => r
def purgeH : Heap → Heap
  | [] => []
  | none :: H => none :: purgeH H
  | some r :: H => some (purgeR r) :: purgeH H

theorem purgeL_length : ∀ as : List AV, (purgeL as).length = as.length
  | [] => by simp [purgeL]
  | a :: as => by simp [purgeL, purgeL_length as]
theorem purgeL_get : ∀ (as : List AV) (i : Nat), (purgeL as)[i]? = (as[i]?).map purge
  | [], i => by simp [purgeL]
  | a :: as, 0 => by simp [purgeL]
  | a :: as, i + 1 => by simp [purgeL, purgeL_get as i]
theorem purgeH_length : ∀ H : Heap, (purgeH H).length = H.length
  | [] => rfl
  | none :: H => by simp [purgeH, purgeH_length H]
  | some r :: H => by simp [purgeH, purgeH_length H]
theorem purgeH_live : ∀ (H : Heap) (i : Nat) (r : Row), Live (purgeH H) i r → ∃ s, Live H i s ∧ r = purgeR s
  | [], i, r, h => by simp [Live, purgeH] at h
  | none :: H, 0, r, h => by simp [Live, purgeH] at h
  | none :: H, i + 1, r, h => by
    obtain ⟨s, h1, h2⟩ := purgeH_live H i r (by simpa [Live, purgeH] using h)
    exact ⟨s, by simpa [Live] using h1, h2⟩
  | some s :: H, 0, r, h => by
    simp only [Live, purgeH, List.getElem?_cons_zero, Option.some.injEq] at h
    exact ⟨s, by simp [Live], h.symm⟩
  | some s :: H, i + 1, r, h => by
    obtain ⟨s, h1, h2⟩ := purgeH_live H i r (by simpa [Live, purgeH] using h)
    exact ⟨s, by simpa [Live] using h1, h2⟩

/-- The same, without borrowed views. -/
def Ctx.nb (C : Ctx) : Ctx := { C with bad := fun c x => match c with | 0 => C.bad 0 x | 1 => C.bad 1 x | _ => True }

theorem nb_at {C : Ctx} {c : Nat} (h : c ≤ 1) : C.nb.at c = C.at c := by
  have : c = 0 ∨ c = 1 := by omega
  rcases this with rfl | rfl <;> simp only [Ctx.at, Ctx.nb]

mutual
theorem purge_ok {C : Ctx} : ∀ (a : AV) (u : Value), R C a [] u → R C.nb (purge a) [] u
  | .bot, u, h => by simp [purge, R]
  | .v x, u, h => by rw [R] at h; simp [purge, R, h]
  | .sl c sz es, u, h => by
    by_cases hc : c ≤ 1
    · simp only [purge, if_pos hc]
      rw [R] at *
      rw [nb_at hc]
      have : c = 0 ∨ c = 1 := by omega
      rcases this with rfl | rfl <;> exact h
    · simp [purge, hc, R]
  | .vp c cs o, u, h => by
    by_cases hc : c ≤ 1
    · simp only [purge, if_pos hc]
      rw [R] at *
      rw [nb_at hc]
      have : c = 0 ∨ c = 1 := by omega
      rcases this with rfl | rfl <;> exact h
    · simp [purge, hc, R]
  | .ls .., u, h => by simp only [purge]; rw [R] at *; exact h
  | .lw .., u, h => by simp only [purge]; rw [R] at *; exact h
  | .lp .., u, h => by simp only [purge]; rw [R] at *; exact h
  | .os .., u, h => by simp only [purge]; rw [R] at *; rw [nb_at (by omega)]; exact h
  | .op .., u, h => by simp only [purge]; rw [R] at *; rw [nb_at (by omega)]; exact h
  | .agg cs, u, h => by
    simp only [purge]
    rw [R] at *
    obtain ⟨us, hu, hr⟩ := h
    exact ⟨us, hu, purgeL_ok cs us hr⟩
  | .tup cs, u, h => by
    simp only [purge]
    rw [R] at *
    obtain ⟨us, hu, hr⟩ := h
    exact ⟨us, hu, purgeL_ok cs us hr⟩
  | .fn f cs, u, h => by
    simp only [purge]
    rw [R] at *
    obtain ⟨us, hu, hr⟩ := h
    exact ⟨us, hu, purgeL_ok cs us hr⟩
theorem purgeL_ok {C : Ctx} : ∀ (as : List AV) (us : List Value), RL C as [] us → RL C.nb (purgeL as) [] us
  | [], us, h => by simp only [purgeL]; rw [RL] at *; exact h
  | a :: as, us, h => by
    simp only [purgeL]
    rw [RL] at *
    obtain ⟨S1, S2, u, us', hS, rfl, h1, h2⟩ := h
    obtain ⟨rfl, rfl⟩ : S1 = [] ∧ S2 = [] := by simpa using hS.symm
    exact ⟨[], [], u, us', rfl, rfl, purge_ok a u h1, purgeL_ok as us' h2⟩
end

/-! A row that a call gives, with its place. -/
structure Q where
  id : Nat
  row : Row
  bs : List Nat
  pl : Option (Nat × Nat)

def setRows (ps : List (Nat × Row)) (H : Heap) : Heap := ps.foldl (fun H p => H.set p.1 (some p.2)) H

theorem length_setRows : ∀ (ps : List (Nat × Row)) (H : Heap), (setRows ps H).length = H.length
  | [], H => rfl
  | p :: ps, H => by show (setRows ps (H.set p.1 _)).length = _; rw [length_setRows ps]; simp

theorem live_setRows : ∀ (ps : List (Nat × Row)) (H : Heap) (i : Nat) (r : Row), (ps.map (·.1)).Nodup → (∀ p ∈ ps, p.1 < H.length) →
    (Live (setRows ps H) i r ↔ (i, r) ∈ ps ∨ (i ∉ ps.map (·.1) ∧ Live H i r))
  | [], H, i, r, _, _ => by simp [setRows]
  | p :: ps, H, i, r, hn, hl => by
    simp only [List.map_cons, List.nodup_cons] at hn
    have ih := live_setRows ps (H.set p.1 (some p.2)) i r hn.2 (fun q hq => by simp; exact hl q (by simp [hq]))
    show Live (setRows ps (H.set p.1 (some p.2))) i r ↔ _
    rw [ih]
    have hp := hl p (by simp)
    simp only [List.mem_cons, List.map_cons, not_or]
    unfold Live
    rw [List.getElem?_set]
    constructor
    · rintro (h | ⟨h1, h2⟩)
      · exact .inl (.inr h)
      · by_cases he : p.1 = i
        · rw [if_pos he, if_pos (by simpa using hp)] at h2
          simp at h2
          left; left; rw [← he, ← h2]
        · rw [if_neg he] at h2
          exact .inr ⟨⟨fun e => he e.symm, h1⟩, h2⟩
    · rintro ((h | h) | ⟨⟨h1, h2⟩, h3⟩)
      · right
        have e1 : p.1 = i := by rw [← h]
        have e2 : p.2 = r := by rw [← h]
        subst e1 e2
        exact ⟨hn.1, by rw [if_pos rfl, if_pos hp]⟩
      · exact .inl h
      · right
        exact ⟨h2, by rw [if_neg (fun e => h1 e.symm)]; exact h3⟩

def prs (qs : List Q) : List (Nat × Row) := qs.map fun q => (q.id, q.row)

def findQ (qs : List Q) (i : Nat) : Option Q := qs.find? (·.id == i)

theorem findQ_some {qs : List Q} {i : Nat} {q : Q} (h : findQ qs i = some q) : q ∈ qs ∧ q.id = i := by
  have h1 := List.find?_some h
  exact ⟨List.mem_of_find?_eq_some h, by simpa using h1⟩
theorem findQ_none {qs : List Q} {i : Nat} (h : findQ qs i = none) : ∀ q ∈ qs, q.id ≠ i := by
  intro q hq e
  have := List.find?_eq_none.1 h q hq
  simp [e] at this
theorem findQ_mem {qs : List Q} (hn : (qs.map (·.id)).Nodup) {q : Q} (hq : q ∈ qs) : findQ qs q.id = some q := by
  induction qs with
  | nil => cases hq
  | cons p ps ih =>
    simp only [List.map_cons, List.nodup_cons] at hn
    unfold findQ at *
    rcases List.mem_cons.1 hq with rfl | hq
    · simp
    · have : p.id ≠ q.id := fun e => hn.1 (by rw [e]; exact List.mem_map.2 ⟨q, hq, rfl⟩)
      rw [List.find?_cons_of_neg (by simpa using this)]
      exact ih hn.2 hq

end Go.Proofs.Dev

namespace Go.Proofs.Dev

def padN (n : Nat) (H : Heap) : Heap := H ++ List.replicate n none

theorem live_padN (n : Nat) (H : Heap) (i : Nat) (r : Row) : Live (padN n H) i r ↔ Live H i r := by
  unfold Live padN
  rcases Nat.lt_or_ge i H.length with h1 | h1
  · rw [List.getElem?_append_left h1]
  · rw [List.getElem?_append_right h1, List.getElem?_eq_none h1]
    constructor
    · intro h
      rw [List.getElem?_replicate] at h
      split at h <;> cases h
    · intro h; cases h

def ioQ (qs : List Q) (io : Nat → Option (Nat × Nat)) (i : Nat) : Option (Nat × Nat) := match findQ qs i with | some q => q.pl | none => io i
def bQ (qs : List Q) (ks : List Nat) (B : Nat → List Nat) (i : Nat) : List Nat := match findQ qs i with | some q => q.bs | none => if i ∈ ks then [] else B i

section
variable {g : Env} {T : List AV} {H : Heap} {io : Nat → Option (Nat × Nat)} {B : Nat → List Nat} {tmps : Array Value} {w : World}

/-- 'pg': views borrowed of rows are given up (needed where something was lent). -/
theorem Rel.settle (h : Rel g T H io B tmps w) (pg : Bool) (ks : List Nat) (S : List Nat) (hS : ∀ x ∈ S, ∃ k ∈ ks, x ∈ B k) (hpg : pg = false → S = []) (w' : World) (hk : Kept w.heap.size S w w')
    (qs : List Q) (n : Nat) (hids : (qs.map (·.id)).Nodup) (hid : ∀ q ∈ qs, (q.id ∈ ks ∧ q.id < H.length ∧ q.pl = io q.id) ∨ (H.length ≤ q.id ∧ q.id < H.length + n))
    (hbs : (qs.flatMap (·.bs)).Nodup) (hmem : ∀ q ∈ qs, ∀ x ∈ q.bs, x < w'.heap.size ∧ (w.heap.size ≤ x ∨ x ∈ S))
    (hhead : ∀ q ∈ qs, ∀ b p, q.pl = some (b, p) → b ∈ q.bs)
    (hrows : ∀ C' : Ctx, C'.w = w' → (∀ x, ¬ (∃ q ∈ qs, x ∈ q.bs) → ¬ ((∃ id, x ∈ B id) ∨ g.forb x) → ¬ C'.bad 0 x) → (∀ q ∈ qs, C'.io q.id = q.pl) → H.length + n ≤ C'.n → ∀ q ∈ qs, RowR C' q.row q.bs q.pl) :
    let H0 := if pg then purgeH H else H
    let T' := if pg then purgeL T else T
    let H' := setRows (prs qs) (padN n (killAll ks H0))
    Rel g T' H' (ioQ qs io) (bQ qs ks B) tmps w' ∧
      (ctx g H' (ioQ qs io) (bQ qs ks B) w').n = H.length + n ∧ (∀ q ∈ qs, (ioQ qs io) q.id = q.pl) ∧
      (∀ x, ¬ (∃ q ∈ qs, x ∈ q.bs) → ¬ ((∃ id, x ∈ B id) ∨ g.forb x) → ¬ (ctx g H' (ioQ qs io) (bQ qs ks B) w').bad 0 x) := by
  intro H0 T' H'
  have hlen0 : H0.length = H.length := by show (if pg then purgeH H else H).length = _; split <;> simp [purgeH_length]
  have hlenH' : H'.length = H.length + n := by
    show (setRows _ (padN n (killAll ks H0))).length = _
    rw [length_setRows, padN, List.length_append, length_killAll, hlen0]; simp
  have hps : (prs qs).map (·.1) = qs.map (·.id) := by simp [prs]
  have hplt : ∀ p ∈ prs qs, p.1 < (padN n (killAll ks H0)).length := by
    intro p hp
    obtain ⟨q, hq, rfl⟩ := List.mem_map.1 hp
    have : (padN n (killAll ks H0)).length = H.length + n := by rw [padN, List.length_append, length_killAll, hlen0]; simp
    rw [this]
    rcases hid q hq with h1 | h1
    · show q.id < _; omega
    · exact h1.2
  -- live rows
  have hlive0 : ∀ i r, Live H0 i r → ∃ s, Live H i s ∧ (r = s ∧ pg = false ∨ r = purgeR s ∧ pg = true) := by
    intro i r hl
    cases pg with
    | false => exact ⟨r, hl, .inl ⟨rfl, rfl⟩⟩
    | true => obtain ⟨s, h1, h2⟩ := purgeH_live H i r hl; exact ⟨s, h1, .inr ⟨h2, rfl⟩⟩
  have hliveI : ∀ i r, Live H' i r → (∃ q ∈ qs, q.id = i ∧ q.row = r) ∨ (findQ qs i = none ∧ i ∉ ks ∧ Live H0 i r) := by
    intro i r hl
    rw [live_setRows _ _ _ _ (by rw [hps]; exact hids) hplt] at hl
    rcases hl with hl | ⟨h1, h2⟩
    · obtain ⟨q, hq, he⟩ := List.mem_map.1 hl
      simp only [Prod.mk.injEq] at he
      exact .inl ⟨q, hq, he.1, he.2⟩
    · rw [live_padN, live_killAll] at h2
      refine .inr ⟨?_, h2.1, h2.2⟩
      cases hf : findQ qs i with
      | none => rfl
      | some q =>
        obtain ⟨h3, h4⟩ := findQ_some hf
        exact absurd (by rw [hps]; exact List.mem_map.2 ⟨q, h3, h4⟩) h1
  have hioQ : ∀ q ∈ qs, ioQ qs io q.id = q.pl := by intro q hq; simp only [ioQ, findQ_mem hids hq]
  have hbQ : ∀ q ∈ qs, bQ qs ks B q.id = q.bs := by intro q hq; simp only [bQ, findQ_mem hids hq]
  have hio : ∀ i, i < H.length → ioQ qs io i = io i := by
    intro i hi
    simp only [ioQ]
    cases hf : findQ qs i with
    | none => rfl
    | some q =>
      obtain ⟨h3, h4⟩ := findQ_some hf
      rcases hid q h3 with ⟨_, _, h1⟩ | h1
      · show q.pl = io i; rw [h1, h4]
      · omega
  have hBm : ∀ i x, x ∈ bQ qs ks B i → (∃ q ∈ qs, q.id = i ∧ x ∈ q.bs) ∨ (findQ qs i = none ∧ i ∉ ks ∧ x ∈ B i) := by
    intro i x hx
    simp only [bQ] at hx
    cases hf : findQ qs i with
    | none =>
      rw [hf] at hx
      by_cases hk : i ∈ ks
      · simp [hk] at hx
      · simp only [if_neg hk] at hx; exact .inr ⟨rfl, hk, hx⟩
    | some q =>
      rw [hf] at hx
      obtain ⟨h3, h4⟩ := findQ_some hf
      exact .inl ⟨q, h3, h4, hx⟩
  have hbad0 : ∀ x, ¬ (∃ q ∈ qs, x ∈ q.bs) → ¬ ((∃ id, x ∈ B id) ∨ g.forb x) → ¬ (ctx g H' (ioQ qs io) (bQ qs ks B) w').bad 0 x := by
    intro x h1 h2
    show ¬ ((∃ id, x ∈ bQ qs ks B id) ∨ g.forb x)
    rintro (⟨i, hi⟩ | hf)
    · rcases hBm i x hi with ⟨q, hq, _, hx⟩ | ⟨_, _, hx⟩
      · exact h1 ⟨q, hq, hx⟩
      · exact h2 (.inl ⟨i, hx⟩)
    · exact h2 (.inr hf)
  have hsame : ∀ x, x < w.heap.size → x ∉ S → w'.heap[x]? = w.heap[x]? := fun x hx hn => hk.block x hx hn
  have hnotS : ∀ i x, i ∉ ks → x ∈ B i → x ∉ S := by
    intro i x hi hx hs
    obtain ⟨k, hk1, hk2⟩ := hS x hs
    exact hi (h.dj _ _ _ hk2 hx ▸ hk1)
  -- the step
  have hst : Step (if pg then (ctx g H io B w).nb else ctx g H io B w) (ctx g H' (ioQ qs io) (bQ qs ks B) w') := by
    have hw0 : (if pg then (ctx g H io B w).nb else ctx g H io B w).w = w := by cases pg <;> rfl
    have hn0 : (if pg then (ctx g H io B w).nb else ctx g H io B w).n = H.length := by cases pg <;> rfl
    have hio0 : (if pg then (ctx g H io B w).nb else ctx g H io B w).io = io := by cases pg <;> rfl
    refine ⟨by rw [hw0]; exact hk.size, ?_, ?_, by rw [hn0]; show H.length ≤ H'.length; rw [hlenH']; omega, ?_, by rw [hw0]; exact hk.room⟩
    · intro c b hb hbad
      rw [hw0] at hb ⊢
      show ¬ badOf H' (ioQ qs io) (bQ qs ks B) g.forb c b ∧ w'.heap[b]? = w.heap[b]?
      have k01 : (¬ ∃ j, b ∈ B j) → (¬ ∃ j, b ∈ bQ qs ks B j) ∧ w'.heap[b]? = w.heap[b]? := by
        intro hn
        have hbS : b ∉ S := fun hs => by obtain ⟨k, _, hk2⟩ := hS b hs; exact hn ⟨k, hk2⟩
        refine ⟨?_, hsame b hb hbS⟩
        rintro ⟨i, hi⟩
        rcases hBm i b hi with ⟨q, hq, _, hx⟩ | ⟨_, _, hx⟩
        · rcases (hmem q hq b hx).2 with h1 | h1
          · omega
          · exact hbS h1
        · exact hn ⟨i, hx⟩
      match c, hbad with
      | 0, hbad =>
        have hb' : ¬ ((∃ id, b ∈ B id) ∨ g.forb b) := by cases pg <;> exact hbad
        rw [not_or] at hb'
        obtain ⟨h1, h2⟩ := k01 hb'.1
        refine ⟨?_, h2⟩
        rintro (h3 | h3)
        · exact h1 h3
        · exact hb'.2 h3
      | 1, hbad =>
        have hb' : ¬ (∃ id, b ∈ B id) := by cases pg <;> exact hbad
        exact k01 hb'
      | c + 2, hbad =>
        cases pg with
        | true => exact absurd trivial hbad
        | false =>
          have hS0 : S = [] := hpg rfl
          have hb' : ¬ (∃ id p r, io id = some (b, p) ∧ Live H id r) := hbad
          refine ⟨?_, hsame b hb (by rw [hS0]; simp)⟩
          rintro ⟨i, p, r, hi, hl⟩
          rcases hliveI i r hl with ⟨q, hq, h1, h2⟩ | ⟨h1, h2, h3⟩
          · rw [← h1, hioQ q hq] at hi
            have := hhead q hq b p hi
            rcases (hmem q hq b this).2 with h4 | h4
            · omega
            · rw [hS0] at h4; cases h4
          · obtain ⟨s, h4, _⟩ := hlive0 i r h3
            rw [hio i h4.lt] at hi
            exact hb' ⟨i, p, s, hi, h4⟩
    · intro id x hx
      rw [hio0] at hx
      have hlt : id < H.length := by
        rcases Nat.lt_or_ge id H.length with h1 | h1
        · exact h1
        · rw [h.io id h1] at hx; cases hx
      show ioQ qs io id = some x
      rw [hio id hlt]; exact hx
    · intro id hlt
      rw [hn0] at hlt; rw [hio0]
      exact hio id hlt
  refine ⟨⟨?_, ?_, ?_, ?_, ?_, ?_, ?_, ?_, ?_, ?_⟩, hlenH', hioQ, hbad0⟩
  · show tmps.size = (if pg then purgeL T else T).length
    rw [h.size]; split <;> simp [purgeL_length]
  · intro i av hi
    cases hp : pg with
    | false =>
      have hi' : T[i]? = some av := by simpa [T', hp] using hi
      obtain ⟨u, hu, hr⟩ := h.tmps i av hi'
      rw [hp] at hst
      exact ⟨u, hu, R.step hst _ _ _ (by simp) hr⟩
    | true =>
      have hi' : (purgeL T)[i]? = some av := by simpa [T', hp] using hi
      rw [purgeL_get] at hi'
      cases hT : T[i]? with
      | none => rw [hT] at hi'; cases hi'
      | some a =>
        rw [hT] at hi'
        simp only [Option.map_some, Option.some.injEq] at hi'
        obtain ⟨u, hu, hr⟩ := h.tmps i a hT
        rw [hp] at hst
        rw [← hi']
        exact ⟨u, hu, R.step hst _ _ _ (by simp) (purge_ok a u hr)⟩
  · intro i r hl
    rcases hliveI i r hl with ⟨q, hq, rfl, rfl⟩ | ⟨h1, h2, h3⟩
    · rw [hbQ q hq, hioQ q hq]
      exact hrows _ rfl hbad0 hioQ (by show H.length + n ≤ H'.length; rw [hlenH']; exact Nat.le_refl _) q hq
    · obtain ⟨s, h4, h5⟩ := hlive0 i r h3
      have hbi : bQ qs ks B i = B i := by simp only [bQ, h1, if_neg h2]
      rw [hbi, hio i h4.lt]
      have hrow := h.rows i s h4
      have hne : ∀ x ∈ B i, w'.heap[x]? = w.heap[x]? := fun x hx => hsame x (h.lt i x hx) (hnotS i x h2 hx)
      rcases h5 with ⟨rfl, hp⟩ | ⟨rfl, hp⟩
      · rw [hp] at hst
        cases r with
        | box cs =>
          obtain ⟨b, p, us, a1, a2, a3, a4, a5, a6⟩ := hrow
          exact ⟨b, p, us, a1, a2, Nat.lt_of_lt_of_le a3 hk.size, hk.room _ _ _ a4, a5.of_block (hne b (by rw [a2]; simp)), RL.step hst _ _ _ (by simp) a6⟩
        | arr sz es =>
          refine orR ?_ hrow
          rintro ⟨b, p, us, S', a1, a2, a3, a4, a5, a6, a7⟩
          exact ⟨b, p, us, S', a1, a2, Nat.lt_of_lt_of_le a3 hk.size, hk.room _ _ _ a4, a5.of_block (hne b (by rw [a2]; simp)), a6, RL.step (hst.at 0) _ _ _ (fun x hx => hne x (by rw [a2]; simp [hx])) a7⟩
      · rw [hp] at hst
        cases s with
        | box cs =>
          obtain ⟨b, p, us, a1, a2, a3, a4, a5, a6⟩ := hrow
          exact ⟨b, p, us, a1, a2, Nat.lt_of_lt_of_le a3 hk.size, by rw [purgeL_length]; exact hk.room _ _ _ a4, a5.of_block (hne b (by rw [a2]; simp)), RL.step hst _ _ _ (by simp) (purgeL_ok _ _ a6)⟩
        | arr sz es =>
          refine orR ?_ hrow
          rintro ⟨b, p, us, S', a1, a2, a3, a4, a5, a6, a7⟩
          refine ⟨b, p, us, S', a1, a2, Nat.lt_of_lt_of_le a3 hk.size, hk.room _ _ _ a4, a5.of_block (hne b (by rw [a2]; simp)), a6, RL.step (hst.at 0) _ _ _ (fun x hx => hne x (by rw [a2]; simp [hx])) ?_⟩
          simp only [if_true]
          rw [nb_at (by omega)]; exact a7
  · intro i hn
    simp only [bQ]
    cases hf : findQ qs i with
    | some q =>
      obtain ⟨h3, h4⟩ := findQ_some hf
      exact absurd ((live_setRows _ _ i q.row (by rw [hps]; exact hids) hplt).2 (.inl (List.mem_map.2 ⟨q, h3, by rw [h4]⟩))) (hn q.row)
    | none =>
      by_cases hk1 : i ∈ ks
      · simp [hk1]
      · simp only [if_neg hk1]
        refine h.dead i fun r hl => ?_
        have hi1 : i ∉ (prs qs).map (·.1) := by
          rw [hps]
          intro hm
          obtain ⟨q, hq, e⟩ := List.mem_map.1 hm
          exact findQ_none hf q hq e
        have : ∃ s, Live H0 i s := by
          cases hp : pg with
          | false => exact ⟨r, by simpa [H0, hp] using hl⟩
          | true =>
            have aux : ∀ (H : Heap) (i : Nat) (r : Row), Live H i r → Live (purgeH H) i (purgeR r) := by
              intro H
              induction H with
              | nil => intro i r h; simp [Live] at h
              | cons x H ih =>
                intro i r h
                cases i with
                | zero => simp only [Live, List.getElem?_cons_zero, Option.some.injEq] at h; subst h; simp [Live, purgeH]
                | succ i =>
                  have := ih i r (by simpa [Live] using h)
                  cases x <;> simpa [Live, purgeH] using this
            exact ⟨purgeR r, by simpa [H0, hp] using aux H i r hl⟩
        obtain ⟨s, hs⟩ := this
        exact hn s ((live_setRows _ _ i s (by rw [hps]; exact hids) hplt).2 (.inr ⟨hi1, by rw [live_padN, live_killAll]; exact ⟨hk1, hs⟩⟩))
  · intro i hi
    have : H.length + n ≤ i := by rw [← hlenH']; exact hi
    simp only [ioQ]
    cases hf : findQ qs i with
    | none => exact h.io i (by omega)
    | some q =>
      obtain ⟨h3, h4⟩ := findQ_some hf
      rcases hid q h3 with h1 | h1 <;> omega
  · intro i
    simp only [bQ]
    cases hf : findQ qs i with
    | none => simp only; split; simp; exact h.nd i
    | some q =>
      obtain ⟨h3, _⟩ := findQ_some hf
      have aux : ∀ (l : List Q), q ∈ l → (l.flatMap (·.bs)).Nodup → q.bs.Nodup := by
        intro l
        induction l with
        | nil => intro h; cases h
        | cons a l ih =>
          intro hm hn
          rw [List.flatMap_cons, List.nodup_append] at hn
          rcases List.mem_cons.1 hm with rfl | hm
          · exact hn.1
          · exact ih hm hn.2.1
      exact aux qs h3 hbs
  · intro i j x hi hj
    rcases hBm i x hi with ⟨q, hq, h1, h2⟩ | ⟨h1, h2, h3⟩ <;> rcases hBm j x hj with ⟨q', hq', h4, h5⟩ | ⟨h4, h5, h6⟩
    · have aux : ∀ (l : List Q), q ∈ l → q' ∈ l → (l.flatMap (·.bs)).Nodup → q = q' := by
        intro l
        induction l with
        | nil => intro h; cases h
        | cons a l ih =>
          intro hm hm' hn
          rw [List.flatMap_cons, List.nodup_append] at hn
          rcases List.mem_cons.1 hm with e1 | m1 <;> rcases List.mem_cons.1 hm' with e2 | m2
          · rw [e1, e2]
          · subst e1; exact absurd rfl (hn.2.2 x h2 x (List.mem_flatMap.2 ⟨q', m2, h5⟩))
          · subst e2; exact absurd rfl (hn.2.2 x h5 x (List.mem_flatMap.2 ⟨q, m1, h2⟩))
          · exact ih m1 m2 hn.2.1
      rw [← h1, ← h4, aux qs hq hq' hbs]
    · exfalso
      rcases (hmem q hq x h2).2 with h7 | h7
      · have := h.lt j x h6; omega
      · exact hnotS j x h5 h6 h7
    · exfalso
      rcases (hmem q' hq' x h5).2 with h7 | h7
      · have := h.lt i x h3; omega
      · exact hnotS i x h2 h3 h7
    · exact h.dj i j x h3 h6
  · intro i x hx
    rcases hBm i x hx with ⟨q, hq, _, h2⟩ | ⟨_, _, h3⟩
    · exact (hmem q hq x h2).1
    · exact Nat.lt_of_lt_of_le (h.lt i x h3) hk.size
  · intro i x hx
    rcases hBm i x hx with ⟨q, hq, _, h2⟩ | ⟨_, _, h3⟩
    · rcases (hmem q hq x h2).2 with h7 | h7
      · exact .inl (Nat.le_trans h.kept.size h7)
      · obtain ⟨k, _, hk2⟩ := hS x h7; exact h.own k x hk2
    · exact h.own i x h3
  · refine h.kept.trans ⟨hk.os, hk.tape, hk.output, hk.size, ?_, hk.room⟩
    intro k hk1 hk2
    refine hk.block k (Nat.lt_of_lt_of_le hk1 h.kept.size) ?_
    intro hs
    obtain ⟨j, _, hj⟩ := hS k hs
    rcases h.own j k hj with h1 | h1
    · omega
    · exact hk2 h1

end
end Go.Proofs.Dev

namespace Go.Proofs.Dev

mutual
def thaw : AV → Nat → AV × List (Nat × Row) × Nat
  | .os sz es, k => (.ls sz k 0 es.length, [(k, .arr sz es)], k + 1)
  | .op cs, k => (.lp 0 k 0 0, (k, .box (thawL cs (k + 1)).1) :: (thawL cs (k + 1)).2.1, (thawL cs (k + 1)).2.2)
  | .agg cs, k => (.agg (thawL cs k).1, (thawL cs k).2.1, (thawL cs k).2.2)
  | .tup cs, k => (.tup (thawL cs k).1, (thawL cs k).2.1, (thawL cs k).2.2)
  | .fn f cs, k => (.fn f (thawL cs k).1, (thawL cs k).2.1, (thawL cs k).2.2)
  | a, k => (a, [], k)
def thawL : List AV → Nat → List AV × List (Nat × Row) × Nat
  | [], k => ([], [], k)
  | a :: as, k => ((thaw a k).1 :: (thawL as (thaw a k).2.2).1, (thaw a k).2.1 ++ (thawL as (thaw a k).2.2).2.1, (thawL as (thaw a k).2.2).2.2)
end

structure Closed (C : Ctx) : Prop where
  io : ∀ i, C.io i = none
  n : C.n = 0

theorem Closed.at {C : Ctx} (_h : Closed C) : Closed (C.at 0) := ⟨fun _ => rfl, rfl⟩

structure Laid (Cp C : Ctx) (qs : List Q) (k : Nat) : Prop where
  w : C.w = Cp.w
  bad : ∀ c x, ¬ Cp.bad c x → ¬ C.bad c x
  io : ∀ q ∈ qs, C.io q.id = q.pl
  n : k ≤ C.n

theorem Closed.step {Cp C : Ctx} (h : Closed Cp) (hw : C.w = Cp.w) (hb : ∀ c x, ¬ Cp.bad c x → ¬ C.bad c x) : Step Cp C := by
  refine ⟨by rw [hw]; exact Nat.le_refl _, fun c b _ hbad => ⟨hb c b hbad, by rw [hw]⟩, fun id x hx => by (rw [h.io] at hx; cases hx), by (rw [h.n]; exact Nat.zero_le _), fun id hid => by (rw [h.n] at hid; omega), fun b p k hr => by (rw [hw]; exact hr)⟩

structure Gives (qs : List Q) (ps : List (Nat × Row)) (S : List Nat) (k k' : Nat) : Prop where
  ps : prs qs = ps
  bs : qs.flatMap (·.bs) = S
  ids : (qs.map (·.id)).Nodup
  range : ∀ q ∈ qs, k ≤ q.id ∧ q.id < k'
  le : k ≤ k'
  head : ∀ q ∈ qs, ∀ b p, q.pl = some (b, p) → b ∈ q.bs

theorem Gives.nil (k : Nat) : Gives [] [] [] k k := ⟨rfl, rfl, by simp, by simp, Nat.le_refl _, by simp⟩

theorem Gives.append {qs qs' : List Q} {ps ps' : List (Nat × Row)} {S S' : List Nat} {k k' k'' : Nat} (h : Gives qs ps S k k') (h' : Gives qs' ps' S' k' k'') : Gives (qs ++ qs') (ps ++ ps') (S ++ S') k k'' := by
  refine ⟨by simp [prs, ← h.ps, ← h'.ps], by rw [List.flatMap_append, h.bs, h'.bs], ?_, ?_, Nat.le_trans h.le h'.le, ?_⟩
  · rw [List.map_append, List.nodup_append]
    refine ⟨h.ids, h'.ids, ?_⟩
    rintro a ha b hb rfl
    obtain ⟨q, hq, rfl⟩ := List.mem_map.1 ha
    obtain ⟨q', hq', e⟩ := List.mem_map.1 hb
    have := h.range q hq
    have := h'.range q' hq'
    omega
  · intro q hq
    have := h.le
    have := h'.le
    rcases List.mem_append.1 hq with hq | hq
    · have := h.range q hq; omega
    · have := h'.range q hq; omega
  · intro q hq
    rcases List.mem_append.1 hq with hq | hq
    · exact h.head q hq
    · exact h'.head q hq

theorem Laid.left {Cp C : Ctx} {qs qs' : List Q} {k k' : Nat} (h : Laid Cp C (qs ++ qs') k') (hk : k ≤ k') : Laid Cp C qs k := ⟨h.w, h.bad, fun q hq => h.io q (by simp [hq]), Nat.le_trans hk h.n⟩
theorem Laid.right {Cp C : Ctx} {qs qs' : List Q} {k' : Nat} (h : Laid Cp C (qs ++ qs') k') : Laid Cp C qs' k' := ⟨h.w, h.bad, fun q hq => h.io q (by simp [hq]), h.n⟩

mutual
theorem thaw_ok : ∀ (t : AV) (Cp : Ctx) (k : Nat) (S : List Nat) (u : Value), Closed Cp → R Cp t S u → ∃ qs, Gives qs (thaw t k).2.1 S k (thaw t k).2.2 ∧ ∀ C, Laid Cp C qs (thaw t k).2.2 → R C (thaw t k).1 [] u ∧ ∀ q ∈ qs, RowR C q.row q.bs q.pl
  | .os sz es, Cp, k, S, u, hc, hr => by
    rw [R] at hr
    obtain ⟨a, cap, hu, hcap, hr⟩ := hr
    rcases hr with ⟨h0, hS⟩ | ⟨h0, b, p, us, S', hS, ha, hb, hroom, hcells, hsz, hrl⟩
    · have he : es = [] := List.length_eq_zero_iff.1 (by omega)
      refine ⟨[⟨k, .arr sz es, [], none⟩], ⟨rfl, by simp [hS], by simp, by simp [thaw], by simp [thaw], by simp⟩, ?_⟩
      intro C hC
      have h1 := hC.io _ (List.mem_singleton.2 rfl)
      have h2 := hC.n
      simp only [thaw] at h2 ⊢
      refine ⟨?_, ?_⟩
      · rw [R]; exact ⟨rfl, by omega, a, cap, hu, hcap, .inl ⟨h0, h1⟩⟩
      · intro q hq; simp at hq; subst hq; exact .inl ⟨he, rfl, rfl⟩
    · refine ⟨[⟨k, .arr sz es, S, some (b, p)⟩], ⟨rfl, by simp, by simp, by simp [thaw], by simp [thaw], by simp [hS]⟩, ?_⟩
      intro C hC
      have h1 := hC.io _ (List.mem_singleton.2 rfl)
      have h2 := hC.n
      simp only [thaw] at h2 ⊢
      have hst := hc.step hC.w hC.bad
      refine ⟨?_, ?_⟩
      · rw [R]
        exact ⟨rfl, by omega, a, cap, hu, hcap, .inr ⟨h0, b, p, h1, by simpa using ha, by rw [hC.w]; simpa using hroom⟩⟩
      · intro q hq; simp at hq; subst hq
        refine .inr ⟨b, p, us, S', rfl, hS, by rw [hC.w]; exact hb, ?_, by rw [hC.w]; exact hcells, hsz, RL.step (hst.at 0) _ _ _ (fun x _ => by show C.w.heap[x]? = Cp.w.heap[x]?; rw [hC.w]) hrl⟩
        rw [hC.w]
        intro j hj
        exact hroom j (Nat.lt_of_lt_of_le hj (Nat.mul_le_mul_right _ hcap))
  | .op cs, Cp, k, S, u, hc, hr => by
    rw [R] at hr
    obtain ⟨b, p, us, S', hS, hu, hb, hroom, hcells, hrl⟩ := hr
    obtain ⟨qs, h1, h2⟩ := thawL_ok cs (Cp.at 0) (k + 1) S' us hc.at hrl
    refine ⟨⟨k, .box (thawL cs (k + 1)).1, [b], some (b, p)⟩ :: qs, ⟨by simp [prs, thaw, ← h1.ps], by simp [h1.bs, hS], ?_, ?_, ?_, ?_⟩, ?_⟩
    · rw [List.map_cons, List.nodup_cons]
      refine ⟨?_, h1.ids⟩
      intro hm
      obtain ⟨q, hq, e⟩ := List.mem_map.1 hm
      have := (h1.range q hq).1
      simp only at e; omega
    · intro q hq
      simp only [thaw]
      rcases List.mem_cons.1 hq with rfl | hq
      · have := h1.le; simp only; omega
      · have := h1.range q hq; omega
    · simp only [thaw]; have := h1.le; omega
    · intro q hq
      rcases List.mem_cons.1 hq with rfl | hq
      · intro b' p' e; cases e; simp
      · exact h1.head q hq
    · intro C hC
      obtain ⟨h3, h4⟩ := h2 C ⟨hC.w, fun c x hx => by (simp only [Ctx.at, Classical.not_imp] at hx; obtain ⟨rfl, hx⟩ := hx; exact hC.bad 0 x hx), fun q hq => hC.io q (by simp [hq]), hC.n⟩
      have h5 := hC.io _ (List.mem_cons_self ..)
      simp only [thaw]
      refine ⟨by rw [R]; exact ⟨rfl, b, p, h5, by simpa using hu⟩, ?_⟩
      intro q hq
      rcases List.mem_cons.1 hq with rfl | hq
      · have e : (thawL cs (k + 1)).1.length = cs.length := by rw [← h3.length, ← hrl.length]
        exact ⟨b, p, us, rfl, rfl, by rw [hC.w]; exact hb, by rw [hC.w, e]; exact hroom, by rw [hC.w]; exact hcells, h3⟩
      · exact h4 q hq
  | .agg cs, Cp, k, S, u, hc, hr => by
    rw [R] at hr
    obtain ⟨us, hu, hrl⟩ := hr
    obtain ⟨qs, h1, h2⟩ := thawL_ok cs Cp k S us hc hrl
    simp only [thaw]
    refine ⟨qs, h1, fun C hC => ?_⟩
    obtain ⟨h3, h4⟩ := h2 C hC
    exact ⟨by rw [R]; exact ⟨us, hu, h3⟩, h4⟩
  | .tup cs, Cp, k, S, u, hc, hr => by
    rw [R] at hr
    obtain ⟨us, hu, hrl⟩ := hr
    obtain ⟨qs, h1, h2⟩ := thawL_ok cs Cp k S us hc hrl
    simp only [thaw]
    refine ⟨qs, h1, fun C hC => ?_⟩
    obtain ⟨h3, h4⟩ := h2 C hC
    exact ⟨by rw [R]; exact ⟨us, hu, h3⟩, h4⟩
  | .fn f cs, Cp, k, S, u, hc, hr => by
    rw [R] at hr
    obtain ⟨us, hu, hrl⟩ := hr
    obtain ⟨qs, h1, h2⟩ := thawL_ok cs Cp k S us hc hrl
    simp only [thaw]
    refine ⟨qs, h1, fun C hC => ?_⟩
    obtain ⟨h3, h4⟩ := h2 C hC
    exact ⟨by rw [R]; exact ⟨us, hu, h3⟩, h4⟩
  | .bot, Cp, k, S, u, hc, hr => by
    have hS : S = [] := by simpa [R] using hr
    subst hS
    exact ⟨[], by simpa [thaw] using Gives.nil k, fun C hC => ⟨by simp [thaw, R], by simp⟩⟩
  | .v x, Cp, k, S, u, hc, hr => by
    have hS : S = [] := by simp only [R] at hr; exact hr.1
    subst hS
    exact ⟨[], by simpa [thaw] using Gives.nil k, fun C hC => ⟨by simp only [thaw]; exact R.step (hc.step hC.w hC.bad) _ _ _ (by simp) hr, by simp⟩⟩
  | .sl c sz es, Cp, k, S, u, hc, hr => by
    have hS : S = [] := by simp only [R] at hr; exact hr.1
    subst hS
    exact ⟨[], by simpa [thaw] using Gives.nil k, fun C hC => ⟨by simp only [thaw]; exact R.step (hc.step hC.w hC.bad) _ _ _ (by simp) hr, by simp⟩⟩
  | .vp c cs o, Cp, k, S, u, hc, hr => by
    have hS : S = [] := by simp only [R] at hr; exact hr.1
    subst hS
    exact ⟨[], by simpa [thaw] using Gives.nil k, fun C hC => ⟨by simp only [thaw]; exact R.step (hc.step hC.w hC.bad) _ _ _ (by simp) hr, by simp⟩⟩
  | .ls sz id off n, Cp, k, S, u, hc, hr => by
    simp only [R] at hr; rw [hc.n] at hr; omega
  | .lw sz id off n, Cp, k, S, u, hc, hr => by
    have hS : S = [] := by simp only [R] at hr; exact hr.1
    subst hS
    exact ⟨[], by simpa [thaw] using Gives.nil k, fun C hC => ⟨by simp only [thaw]; exact R.step (hc.step hC.w hC.bad) _ _ _ (by simp) hr, by simp⟩⟩
  | .lp sz id i o, Cp, k, S, u, hc, hr => by
    simp only [R] at hr; obtain ⟨_, b, p, h1, _⟩ := hr; rw [hc.io] at h1; cases h1
theorem thawL_ok : ∀ (ts : List AV) (Cp : Ctx) (k : Nat) (S : List Nat) (us : List Value), Closed Cp → RL Cp ts S us → ∃ qs, Gives qs (thawL ts k).2.1 S k (thawL ts k).2.2 ∧ ∀ C, Laid Cp C qs (thawL ts k).2.2 → RL C (thawL ts k).1 [] us ∧ ∀ q ∈ qs, RowR C q.row q.bs q.pl
  | [], Cp, k, S, us, hc, hr => by
    rw [RL] at hr
    obtain ⟨rfl, rfl⟩ := hr
    exact ⟨[], by simpa [thawL] using Gives.nil k, fun C hC => ⟨by simp [thawL, RL], by simp⟩⟩
  | t :: ts, Cp, k, S, us, hc, hr => by
    rw [RL] at hr
    obtain ⟨S1, S2, u, us', rfl, rfl, h1, h2⟩ := hr
    obtain ⟨qs1, h3, h4⟩ := thaw_ok t Cp k S1 u hc h1
    obtain ⟨qs2, h5, h6⟩ := thawL_ok ts Cp (thaw t k).2.2 S2 us' hc h2
    simp only [thawL]
    refine ⟨qs1 ++ qs2, h3.append h5, fun C hC => ?_⟩
    obtain ⟨h7, h8⟩ := h4 C (hC.left h5.le)
    obtain ⟨h9, h10⟩ := h6 C hC.right
    refine ⟨by rw [RL]; exact ⟨[], [], u, us', rfl, rfl, h7, h9⟩, ?_⟩
    intro q hq
    rcases List.mem_append.1 hq with hq | hq
    · exact h8 q hq
    · exact h10 q hq
end

end Go.Proofs.Dev

namespace Go.Proofs.Dev

mutual
/-- What is lent: whole rows, variables. -/
def fo (H : Heap) : AV → Option (AV × List Nat)
  | .v x => some (.v x, [])
  | .ls sz id off n => match H[id]? with
    | some (some (.arr sz' es)) => if sz' = sz ∧ off = 0 ∧ n = es.length then some (.os sz es, [id]) else none
    | _ => none
  | .lp _ id i o => match H[id]? with
    | some (some (.box cs)) => if i = 0 ∧ o = 0 then (fzL H cs).map fun x => (.op x.1, id :: x.2) else none
    | _ => none
  | .agg cs => (foL H cs).map fun x => (.agg x.1, x.2)
  | .fn f cs => (foL H cs).map fun x => (.fn f x.1, x.2)
  | .sl c sz es => if c = 0 then some (.sl 0 sz es, []) else none
  | _ => none
def foL (H : Heap) : List AV → Option (List AV × List Nat)
  | [] => some ([], [])
  | a :: as => match fo H a, foL H as with
    | some x, some y => some (x.1 :: y.1, x.2 ++ y.2)
    | _, _ => none
end

mutual
/-- What comes back is laid where it was. -/
def rv : AV → AV → Nat → Option (List (Nat × Row) × Nat)
  | .v _, .v _, k => some ([], k)
  | .ls sz id _ n, .os sz' es, k => if sz' = sz ∧ es.length = n then some ([(id, .arr sz es)], k) else none
  | .lp _ id _ _, .op cs, k => some ((id, .box (thawL cs k).1) :: (thawL cs k).2.1, (thawL cs k).2.2)
  | .agg xs, .agg ts, k => rvL xs ts k
  | .fn _ xs, .fn _ ts, k => rvL xs ts k
  | _, .bot, k => some ([], k)
  | _, _, _ => none
def rvL : List AV → List AV → Nat → Option (List (Nat × Row) × Nat)
  | [], [], k => some ([], k)
  | x :: xs, t :: ts, k => match rv x t k with
    | some p => match rvL xs ts p.2 with
      | some q => some (p.1 ++ q.1, q.2)
      | none => none
    | none => none
  | _, _, _ => none
end

mutual
theorem fz_live {H : Heap} : ∀ (a a' : AV) (ks : List Nat), fz H a = some (a', ks) → ∀ i ∈ ks, ∃ r, Live H i r
  | .ls sz id off n, a', ks, hf, i, hi => by
    rw [fz] at hf
    split at hf
    case h_2 => cases hf
    rename_i hl
    split at hf <;> cases hf
    simp at hi; subst hi; exact ⟨_, hl⟩
  | .lw sz id off n, a', ks, hf, i, hi => by
    rw [fz] at hf
    split at hf
    case h_2 => cases hf
    rename_i hl
    split at hf <;> cases hf
    simp at hi; subst hi; exact ⟨_, hl⟩
  | .agg cs, a', ks, hf, i, hi => by
    rw [fz] at hf
    cases hx : fzL H cs with
    | none => rw [hx] at hf; cases hf
    | some x => rw [hx] at hf; cases hf; exact fzL_live cs x.1 x.2 (by rw [hx]) i hi
  | .tup cs, a', ks, hf, i, hi => by
    rw [fz] at hf
    cases hx : fzL H cs with
    | none => rw [hx] at hf; cases hf
    | some x => rw [hx] at hf; cases hf; exact fzL_live cs x.1 x.2 (by rw [hx]) i hi
  | .fn f cs, a', ks, hf, i, hi => by
    rw [fz] at hf
    cases hx : fzL H cs with
    | none => rw [hx] at hf; cases hf
    | some x => rw [hx] at hf; cases hf; exact fzL_live cs x.1 x.2 (by rw [hx]) i hi
  | .v x, a', ks, hf, i, hi => by rw [fz] at hf; cases hf; cases hi
  | .os sz es, a', ks, hf, i, hi => by rw [fz] at hf; cases hf; cases hi
  | .sl .., a', ks, hf, i, hi => by rw [fz] at hf; split at hf <;> cases hf; cases hi
  | .vp .., a', ks, hf, i, hi => by rw [fz] at hf; split at hf <;> cases hf; cases hi
  | .bot, a', ks, hf, i, hi => by simp [fz] at hf
  | .lp .., a', ks, hf, i, hi => by simp [fz] at hf
  | .op .., a', ks, hf, i, hi => by simp [fz] at hf
theorem fzL_live {H : Heap} : ∀ (as as' : List AV) (ks : List Nat), fzL H as = some (as', ks) → ∀ i ∈ ks, ∃ r, Live H i r
  | [], as', ks, hf, i, hi => by rw [fzL] at hf; cases hf; cases hi
  | a :: as, as', ks, hf, i, hi => by
    rw [fzL] at hf
    split at hf
    case h_2 => cases hf
    rename_i x y hx hy
    cases hf
    rcases List.mem_append.1 hi with hi | hi
    · exact fz_live a x.1 x.2 hx i hi
    · exact fzL_live as y.1 y.2 hy i hi
end

section
variable {g : Env} {T : List AV} {H : Heap} {io : Nat → Option (Nat × Nat)} {B : Nat → List Nat} {tmps : Array Value} {w : World}

mutual
theorem fo_ok (h : Rel g T H io B tmps w) : ∀ (a a' : AV) (ks : List Nat) (u : Value), fo H a = some (a', ks) → R (ctx g H io B w) a [] u →
    ∃ S, R ((ctx g H io B w).at 0) a' S u ∧ List.Sublist S (ks.flatMap B) ∧ ∀ i ∈ ks, ∃ r, Live H i r
  | .v x, a', ks, u, hf, hr => by
    rw [fo] at hf; cases hf
    exact ⟨[], hr.closeV 0, by simp, by simp⟩
  | .ls sz id off n, a', ks, u, hf, hr => by
    rw [fo] at hf
    split at hf
    case h_2 => cases hf
    rename_i sz' es hl
    split at hf
    case isFalse => cases hf
    rename_i hc
    obtain ⟨rfl, rfl, rfl⟩ := hc
    cases hf
    rw [R] at hr
    obtain ⟨_, _, a, cap, hu, hcap, hr⟩ := hr
    simp only [ctx] at hr
    rcases hr with ⟨h0, hio⟩ | ⟨h0, b, p, hi, ha, hroom⟩
    · refine ⟨[], ?_, by simp, by intro i hi; simp at hi; subst hi; exact ⟨_, hl⟩⟩
      rw [R]; exact ⟨a, cap, hu, hcap, .inl ⟨h0, rfl⟩⟩
    · rcases h.rows id _ hl with ⟨_, _, h3⟩ | ⟨b', p', us, S, h1, h2, h3, h4, h5, h6, h7⟩
      · rw [h3] at hi; cases hi
      · rw [hi] at h1; cases h1
        refine ⟨b :: S, ?_, by simp [h2], by intro i hi; simp at hi; subst hi; exact ⟨_, hl⟩⟩
        rw [R]
        simp only [Nat.zero_mul, Nat.add_zero] at ha hroom
        exact ⟨a, cap, hu, hcap, .inr ⟨h0, b, p, us, S, rfl, ha, h3, hroom, h5, h6, by rw [at_at]; exact h7⟩⟩
  | .lp sz id i o, a', ks, u, hf, hr => by
    rw [fo] at hf
    split at hf
    case h_2 => cases hf
    rename_i cs hl
    split at hf
    case isFalse => cases hf
    rename_i hc
    obtain ⟨rfl, rfl⟩ := hc
    cases hx : fzL H cs with
    | none => rw [hx] at hf; cases hf
    | some x =>
      rw [hx] at hf; cases hf
      rw [R] at hr
      obtain ⟨_, b, p, hi, hu⟩ := hr
      obtain ⟨b', p', us, h1, h2, h3, h4, h5, h6⟩ := h.rows id _ hl
      simp only [ctx] at hi
      rw [hi] at h1; cases h1
      obtain ⟨S, h7, h8⟩ := fzL_ok h cs x.1 x.2 us (by rw [hx]) h6
      refine ⟨b :: S, ?_, ?_, ?_⟩
      · rw [R]
        have e : x.1.length = cs.length := by rw [← h7.length, ← h6.length]
        exact ⟨b, p, us, S, rfl, by simpa using hu, h3, by rw [e]; exact h4, h5, by rw [at_at]; exact h7⟩
      · rw [List.flatMap_cons, h2]
        exact List.Sublist.cons_cons _ (by simpa using h8)
      · intro i hi2
        rcases List.mem_cons.1 hi2 with rfl | hi2
        · exact ⟨_, hl⟩
        · exact fzL_live cs x.1 x.2 (by rw [hx]) i hi2
  | .agg cs, a', ks, u, hf, hr => by
    rw [fo] at hf
    cases hx : foL H cs with
    | none => rw [hx] at hf; cases hf
    | some x =>
      rw [hx] at hf; cases hf
      rw [R] at hr
      obtain ⟨us, hu, hrl⟩ := hr
      obtain ⟨S, h1, h2, h3⟩ := foL_ok h cs x.1 x.2 us (by rw [hx]) hrl
      exact ⟨S, by rw [R]; exact ⟨us, hu, h1⟩, h2, h3⟩
  | .fn f cs, a', ks, u, hf, hr => by
    rw [fo] at hf
    cases hx : foL H cs with
    | none => rw [hx] at hf; cases hf
    | some x =>
      rw [hx] at hf; cases hf
      rw [R] at hr
      obtain ⟨us, hu, hrl⟩ := hr
      obtain ⟨S, h1, h2, h3⟩ := foL_ok h cs x.1 x.2 us (by rw [hx]) hrl
      exact ⟨S, by rw [R]; exact ⟨us, hu, h1⟩, h2, h3⟩
  | .bot, a', ks, u, hf, hr => by simp [fo] at hf
  | .sl c sz es, a', ks, u, hf, hr => by
    rw [fo] at hf
    split at hf
    case isFalse => cases hf
    rename_i hc
    subst hc; cases hf
    exact ⟨[], hr.closeS, by simp, by simp⟩
  | .vp .., a', ks, u, hf, hr => by simp [fo] at hf
  | .lw .., a', ks, u, hf, hr => by simp [fo] at hf
  | .os .., a', ks, u, hf, hr => by simp [fo] at hf
  | .op .., a', ks, u, hf, hr => by simp [fo] at hf
  | .tup .., a', ks, u, hf, hr => by simp [fo] at hf
theorem foL_ok (h : Rel g T H io B tmps w) : ∀ (as as' : List AV) (ks : List Nat) (us : List Value), foL H as = some (as', ks) → RL (ctx g H io B w) as [] us →
    ∃ S, RL ((ctx g H io B w).at 0) as' S us ∧ List.Sublist S (ks.flatMap B) ∧ ∀ i ∈ ks, ∃ r, Live H i r
  | [], as', ks, us, hf, hr => by
    rw [foL] at hf; cases hf
    exact ⟨[], by rw [RL] at *; exact hr, by simp, by simp⟩
  | a :: as, as', ks, us, hf, hr => by
    rw [foL] at hf
    split at hf
    case h_2 => cases hf
    rename_i x y hx hy
    cases hf
    rw [RL] at hr
    obtain ⟨S1, S2, u, us', hS, rfl, h1, h2⟩ := hr
    obtain ⟨rfl, rfl⟩ : S1 = [] ∧ S2 = [] := by simpa using hS.symm
    obtain ⟨S3, h3, h4, h5⟩ := fo_ok h a x.1 x.2 u hx h1
    obtain ⟨S4, h6, h7, h8⟩ := foL_ok h as y.1 y.2 us' hy h2
    refine ⟨S3 ++ S4, by rw [RL]; exact ⟨S3, S4, u, us', rfl, rfl, h3, h6⟩, by rw [List.flatMap_append]; exact h4.append h7, ?_⟩
    intro i hi
    rcases List.mem_append.1 hi with hi | hi
    · exact h5 i hi
    · exact h8 i hi
end

end
end Go.Proofs.Dev

namespace Go.Proofs.Dev

section
variable {g : Env} {T : List AV} {H : Heap} {io : Nat → Option (Nat × Nat)} {B : Nat → List Nat} {tmps : Array Value} {w : World}

structure Back (n : Nat) (io : Nat → Option (Nat × Nat)) (qs : List Q) (ps : List (Nat × Row)) (S : List Nat) (ks : List Nat) (k k' : Nat) : Prop where
  ps : prs qs = ps
  bs : qs.flatMap (·.bs) = S
  ids : (qs.map (·.id)).Nodup
  range : ∀ q ∈ qs, (q.id ∈ ks ∧ q.id < n ∧ q.pl = io q.id) ∨ (k ≤ q.id ∧ q.id < k')
  le : k ≤ k'
  head : ∀ q ∈ qs, ∀ b p, q.pl = some (b, p) → b ∈ q.bs

theorem Back.nil (n : Nat) (ks : List Nat) (k : Nat) : Back n io [] [] [] ks k k := ⟨rfl, rfl, by simp, by simp, Nat.le_refl _, by simp⟩

theorem Back.append {n : Nat} {qs qs' : List Q} {ps ps' : List (Nat × Row)} {S S' ks ks' : List Nat} {k k' k'' : Nat} (h : Back n io qs ps S ks k k') (h' : Back n io qs' ps' S' ks' k' k'') (hn : n ≤ k)
    (hd : ∀ i ∈ ks, i ∉ ks') : Back n io (qs ++ qs') (ps ++ ps') (S ++ S') (ks ++ ks') k k'' := by
  refine ⟨by simp [prs, ← h.ps, ← h'.ps], by rw [List.flatMap_append, h.bs, h'.bs], ?_, ?_, Nat.le_trans h.le h'.le, ?_⟩
  · rw [List.map_append, List.nodup_append]
    refine ⟨h.ids, h'.ids, ?_⟩
    rintro a ha b hb rfl
    obtain ⟨q, hq, rfl⟩ := List.mem_map.1 ha
    obtain ⟨q', hq', e⟩ := List.mem_map.1 hb
    have hle := h.le
    rcases h.range q hq with ⟨r1, r2, _⟩ | ⟨r1, r2⟩ <;> rcases h'.range q' hq' with ⟨r3, r4, _⟩ | ⟨r3, r4⟩
    · rw [e] at r3; exact hd _ r1 r3
    · omega
    · omega
    · omega
  · intro q hq
    have := h.le
    have := h'.le
    rcases List.mem_append.1 hq with hq | hq
    · rcases h.range q hq with ⟨r1, r2⟩ | r1
      · exact .inl ⟨by simp [r1], r2⟩
      · right; omega
    · rcases h'.range q hq with ⟨r1, r2⟩ | r1
      · exact .inl ⟨by simp [r1], r2⟩
      · right; omega
  · intro q hq
    rcases List.mem_append.1 hq with hq | hq
    · exact h.head q hq
    · exact h'.head q hq

mutual
theorem rv_ok (h : Rel g T H io B tmps w) {Cp : Ctx} (hc : Closed Cp) : ∀ (x tin t : AV) (ks : List Nat) (k : Nat) (ps : List (Nat × Row)) (k' : Nat) (S : List Nat) (u : Value), fo H x = some (tin, ks) → R (ctx g H io B w) x [] u → R Cp t S u → H.length ≤ k → ks.Nodup →
    rv x t k = some (ps, k') → ∃ qs, Back H.length io qs ps S ks k k' ∧ ∀ C, Laid Cp C qs k' → ∀ q ∈ qs, RowR C q.row q.bs q.pl
  | .ls sz id off n, tin, t, ks, k, ps, k', S, u, hf, hx, ht, hk, hnd, hrv => by
    cases t with
    | os sz' es =>
      simp only [rv] at hrv
      split at hrv
      case isFalse => cases hrv
      rename_i hcond
      obtain ⟨rfl, rfl⟩ := hcond
      cases hrv
      rw [fo] at hf
      split at hf
      case h_2 => cases hf
      rename_i sz'' es0 hl
      split at hf
      case isFalse => cases hf
      rename_i hcond
      obtain ⟨_, rfl, _⟩ := hcond
      cases hf
      have hidlt : id < H.length := Live.lt (r := .arr sz'' es0) hl
      rw [R] at hx
      obtain ⟨_, _, a, cap, rfl, hcap, hr⟩ := hx
      simp only [ctx] at hr
      rw [R] at ht
      obtain ⟨a', cap', hu, hcap', hr'⟩ := ht
      cases hu
      rcases hr with ⟨h0, hio⟩ | ⟨h0, b, p, hi, ha, hroom⟩
      · rcases hr' with ⟨_, rfl⟩ | ⟨h1, _⟩
        · have he : es = [] := List.length_eq_zero_iff.1 (by omega)
          refine ⟨[⟨id, .arr sz' es, [], none⟩], ⟨rfl, rfl, by simp, ?_, Nat.le_refl _, by simp⟩, ?_⟩
          · intro q hq; simp at hq; subst hq; exact .inl ⟨by simp, hidlt, hio.symm⟩
          · intro C _ q hq; simp at hq; subst hq; exact .inl ⟨he, rfl, rfl⟩
        · omega
      · rcases hr' with ⟨h1, _⟩ | ⟨_, b', p', us, S', rfl, ha', hb, hroom', hcells, hsz, hrl⟩
        · omega
        · rw [ha] at ha'
          simp only [Nat.zero_mul, Nat.add_zero, Option.some.injEq, Addr.mk.injEq, and_true] at ha'
          obtain ⟨rfl, rfl⟩ := ha'
          refine ⟨[⟨id, .arr sz' es, b :: S', some (b, p)⟩], ⟨rfl, by simp, by simp, ?_, Nat.le_refl _, by simp⟩, ?_⟩
          · intro q hq; simp at hq; subst hq; exact .inl ⟨by simp, hidlt, hi.symm⟩
          · intro C hC q hq; simp at hq; subst hq
            have hst := hc.step hC.w hC.bad
            refine .inr ⟨b, p, us, S', rfl, rfl, by rw [hC.w]; exact hb, ?_, by rw [hC.w]; exact hcells, hsz, RL.step (hst.at 0) _ _ _ (fun x _ => by show C.w.heap[x]? = Cp.w.heap[x]?; rw [hC.w]) hrl⟩
            rw [hC.w]
            intro j hj
            exact hroom' j (Nat.lt_of_lt_of_le hj (Nat.mul_le_mul_right _ hcap))
    | bot =>
      have hS : S = [] := by simpa [R] using ht
      subst hS
      simp only [rv] at hrv; cases hrv
      exact ⟨[], Back.nil _ _ _, by simp⟩
    | _ => simp [rv] at hrv
  | .lp sz id i o, tin, t, ks, k, ps, k', S, u, hf, hx, ht, hk, hnd, hrv => by
    cases t with
    | op cs =>
      simp only [rv] at hrv
      cases hrv
      rw [fo] at hf
      split at hf
      case h_2 => cases hf
      rename_i cs0 hl
      split at hf
      case isFalse => cases hf
      rename_i hcond
      obtain ⟨rfl, rfl⟩ := hcond
      cases hxx : fzL H cs0 with
      | none => rw [hxx] at hf; cases hf
      | some xx =>
        rw [hxx] at hf; cases hf
        have hidlt : id < H.length := Live.lt (r := .box cs0) hl
        rw [R] at hx
        obtain ⟨_, b, p, hi, rfl⟩ := hx
        simp only [ctx] at hi
        rw [R] at ht
        obtain ⟨b', p', us, S', rfl, hu, hb, hroom, hcells, hrl⟩ := ht
        simp only [Nat.zero_mul, Nat.add_zero, Value.pointer.injEq, Option.some.injEq, Addr.mk.injEq, and_true] at hu
        obtain ⟨rfl, rfl⟩ := hu
        obtain ⟨qs, h1, h2⟩ := thawL_ok cs (Cp.at 0) k S' us hc.at hrl
        refine ⟨⟨id, .box (thawL cs k).1, [b], some (b, p)⟩ :: qs, ⟨by simp [prs, ← h1.ps], by simp [h1.bs], ?_, ?_, h1.le, ?_⟩, ?_⟩
        · rw [List.map_cons, List.nodup_cons]
          refine ⟨?_, h1.ids⟩
          intro hm
          obtain ⟨q, hq, e⟩ := List.mem_map.1 hm
          have := (h1.range q hq).1
          simp only at e; omega
        · intro q hq
          rcases List.mem_cons.1 hq with rfl | hq
          · exact .inl ⟨by simp, hidlt, hi.symm⟩
          · exact .inr (h1.range q hq)
        · intro q hq
          rcases List.mem_cons.1 hq with rfl | hq
          · intro b' p' e; cases e; simp
          · exact h1.head q hq
        · intro C hC q hq
          obtain ⟨h3, h4⟩ := h2 C ⟨hC.w, fun c x hx => by (simp only [Ctx.at, Classical.not_imp] at hx; obtain ⟨rfl, hx⟩ := hx; exact hC.bad 0 x hx), fun q hq => hC.io q (by simp [hq]), hC.n⟩
          rcases List.mem_cons.1 hq with rfl | hq
          · have e : (thawL cs k).1.length = cs.length := by rw [← h3.length, ← hrl.length]
            exact ⟨b, p, us, rfl, rfl, by rw [hC.w]; exact hb, by rw [hC.w, e]; exact hroom, by rw [hC.w]; exact hcells, h3⟩
          · exact h4 q hq
    | bot =>
      have hS : S = [] := by simpa [R] using ht
      subst hS
      simp only [rv] at hrv; cases hrv
      exact ⟨[], Back.nil _ _ _, by simp⟩
    | _ => simp [rv] at hrv
  | .agg xs, tin, t, ks, k, ps, k', S, u, hf, hx, ht, hk, hnd, hrv => by
    cases t with
    | agg ts =>
      simp only [rv] at hrv
      rw [fo] at hf
      cases hxx : foL H xs with
      | none => rw [hxx] at hf; cases hf
      | some xx =>
        rw [hxx] at hf; cases hf
        rw [R] at hx ht
        obtain ⟨us, rfl, hrl⟩ := hx
        obtain ⟨us', hu, hrl'⟩ := ht
        have : us = us' := by simpa using hu
        subst this
        exact rvL_ok h hc xs xx.1 ts xx.2 k ps k' S us (by rw [hxx]) hrl hrl' hk hnd hrv
    | bot =>
      have hS : S = [] := by simpa [R] using ht
      subst hS
      simp only [rv] at hrv; cases hrv
      exact ⟨[], Back.nil _ _ _, by simp⟩
    | _ => simp [rv] at hrv
  | .fn f xs, tin, t, ks, k, ps, k', S, u, hf, hx, ht, hk, hnd, hrv => by
    cases t with
    | fn f' ts =>
      simp only [rv] at hrv
      rw [fo] at hf
      cases hxx : foL H xs with
      | none => rw [hxx] at hf; cases hf
      | some xx =>
        rw [hxx] at hf; cases hf
        rw [R] at hx ht
        obtain ⟨us, rfl, hrl⟩ := hx
        obtain ⟨us', hu, hrl'⟩ := ht
        have : us = us' := by simp at hu; exact hu.2
        subst this
        exact rvL_ok h hc xs xx.1 ts xx.2 k ps k' S us (by rw [hxx]) hrl hrl' hk hnd hrv
    | bot =>
      have hS : S = [] := by simpa [R] using ht
      subst hS
      simp only [rv] at hrv; cases hrv
      exact ⟨[], Back.nil _ _ _, by simp⟩
    | _ => simp [rv] at hrv
  | .v x, tin, t, ks, k, ps, k', S, u, hf, hx, ht, hk, hnd, hrv => by
    cases t with
    | v y =>
      have hS : S = [] := by simp only [R] at ht; exact ht.1
      subst hS
      simp only [rv] at hrv; cases hrv
      exact ⟨[], Back.nil _ _ _, by simp⟩
    | bot =>
      have hS : S = [] := by simpa [R] using ht
      subst hS
      simp only [rv] at hrv; cases hrv
      exact ⟨[], Back.nil _ _ _, by simp⟩
    | _ => simp [rv] at hrv
  | .bot, tin, t, ks, k, ps, k', S, u, hf, hx, ht, hk, hnd, hrv => by simp [fo] at hf
  | .sl c sz es, tin, t, ks, k, ps, k', S, u, hf, hx, ht, hk, hnd, hrv => by
    cases t with
    | bot =>
      have hS : S = [] := by simpa [R] using ht
      subst hS
      simp only [rv] at hrv; cases hrv
      exact ⟨[], Back.nil _ _ _, by simp⟩
    | _ => simp [rv] at hrv
  | .vp .., tin, t, ks, k, ps, k', S, u, hf, hx, ht, hk, hnd, hrv => by simp [fo] at hf
  | .lw .., tin, t, ks, k, ps, k', S, u, hf, hx, ht, hk, hnd, hrv => by simp [fo] at hf
  | .os .., tin, t, ks, k, ps, k', S, u, hf, hx, ht, hk, hnd, hrv => by simp [fo] at hf
  | .op .., tin, t, ks, k, ps, k', S, u, hf, hx, ht, hk, hnd, hrv => by simp [fo] at hf
  | .tup .., tin, t, ks, k, ps, k', S, u, hf, hx, ht, hk, hnd, hrv => by simp [fo] at hf
theorem rvL_ok (h : Rel g T H io B tmps w) {Cp : Ctx} (hc : Closed Cp) : ∀ (xs tins ts : List AV) (ks : List Nat) (k : Nat) (ps : List (Nat × Row)) (k' : Nat) (S : List Nat) (us : List Value), foL H xs = some (tins, ks) → RL (ctx g H io B w) xs [] us → RL Cp ts S us → H.length ≤ k → ks.Nodup →
    rvL xs ts k = some (ps, k') → ∃ qs, Back H.length io qs ps S ks k k' ∧ ∀ C, Laid Cp C qs k' → ∀ q ∈ qs, RowR C q.row q.bs q.pl
  | [], tins, [], ks, k, ps, k', S, us, hf, hx, ht, hk, hnd, hrv => by
    rw [RL] at ht
    obtain ⟨rfl, rfl⟩ := ht
    simp only [rvL] at hrv; cases hrv
    exact ⟨[], Back.nil _ _ _, by simp⟩
  | x :: xs, tins, t :: ts, ks, k, ps, k', S, us, hf, hx, ht, hk, hnd, hrv => by
    simp only [rvL] at hrv
    split at hrv
    case h_2 => cases hrv
    rename_i p hp
    split at hrv
    case h_2 => cases hrv
    rename_i q hq
    cases hrv
    rw [foL] at hf
    split at hf
    case h_2 => cases hf
    rename_i a b ha hb
    cases hf
    rw [RL] at hx ht
    obtain ⟨S1, S2, u, us1, hS, rfl, h1, h2⟩ := hx
    obtain ⟨rfl, rfl⟩ : S1 = [] ∧ S2 = [] := by simpa using hS.symm
    obtain ⟨S3, S4, u', us2, rfl, hu, h3, h4⟩ := ht
    simp only [List.cons.injEq] at hu
    obtain ⟨rfl, rfl⟩ := hu
    rw [List.nodup_append] at hnd
    obtain ⟨qs1, b1, r1⟩ := rv_ok h hc x a.1 t a.2 k p.1 p.2 S3 u ha h1 h3 hk hnd.1 hp
    obtain ⟨qs2, b2, r2⟩ := rvL_ok h hc xs b.1 ts b.2 p.2 q.1 q.2 S4 us1 hb h2 h4 (Nat.le_trans hk b1.le) hnd.2.1 hq
    refine ⟨qs1 ++ qs2, b1.append b2 hk (fun i hi hi2 => hnd.2.2 i hi i hi2 rfl), ?_⟩
    intro C hC y hy
    rcases List.mem_append.1 hy with hy | hy
    · exact r1 C (hC.left b2.le) y hy
    · exact r2 C hC.right y hy
  | [], tins, t :: ts, ks, k, ps, k', S, us, hf, hx, ht, hk, hnd, hrv => by simp [rvL] at hrv
  | x :: xs, tins, [], ks, k, ps, k', S, us, hf, hx, ht, hk, hnd, hrv => by simp [rvL] at hrv
end

end
end Go.Proofs.Dev

namespace Go.Proofs.Dev

mutual
def rd0 (k2 : Bool) (H : Heap) : AV → Option AV
  | .v x => some (.v x)
  | .sl c sz es => if c ≤ 1 ∨ k2 = true then some (.sl 1 sz (vwL 1 es)) else none
  | .vp c cs o => if c ≤ 1 ∨ k2 = true then some (.vp 1 (vwL 1 cs) o) else none
  | .os sz [] => some (.sl 1 sz [])
  | .ls sz id off n => match H[id]? with
    | some (some (.arr sz' es)) => if sz' = sz ∧ off + n ≤ es.length then some (.sl 1 sz (vwL 1 ((es.drop off).take n))) else none
    | _ => none
  | .lw sz id off n => match H[id]? with
    | some (some (.arr sz' es)) => if sz' = sz ∧ off + n ≤ es.length then some (.sl 1 sz (vwL 1 ((es.drop off).take n))) else none
    | _ => none
  | .lp sz id i o => match H[id]? with
    | some (some (.arr sz' es)) => if sz' = sz then (match es[i]? with | some e => some (.vp 1 (vwL 1 (cellsE e)) o) | none => none) else none
    | _ => none
  | .agg cs => (rd0L k2 H cs).map .agg
  | .fn f cs => (rd0L k2 H cs).map (.fn f)
  | _ => none
def rd0L (k2 : Bool) (H : Heap) : List AV → Option (List AV)
  | [] => some []
  | a :: as => match rd0 k2 H a, rd0L k2 H as with
    | some x, some y => some (x :: y)
    | _, _ => none
end

mutual
def rd (k2 : Bool) (H : Heap) : AV → Option AV
  | .lp sz id i o => match H[id]? with
    | some (some (.box cs)) => if i = 0 then (rd0L k2 H cs).map (.vp 1 · o) else none
    | _ => rd0 k2 H (.lp sz id i o)
  | .agg cs => (rdL k2 H cs).map .agg
  | .fn f cs => (rdL k2 H cs).map (.fn f)
  | a => rd0 k2 H a
def rdL (k2 : Bool) (H : Heap) : List AV → Option (List AV)
  | [] => some []
  | a :: as => match rd k2 H a, rdL k2 H as with
    | some x, some y => some (x :: y)
    | _, _ => none
end

theorem killAll_get (ks : List Nat) (H : Heap) (id : Nat) (r : Row) (h : (killAll ks H)[id]? = some (some r)) : id ∉ ks ∧ Live H id r := (live_killAll ks H id r).1 h

section
variable {g : Env} {T : List AV} {H : Heap} {io : Nat → Option (Nat × Nat)} {B : Nat → List Nat} {tmps : Array Value} {w : World}

/-- What may be viewed at all is not lent. -/
theorem Rel.bad1 (h : Rel g T H io B tmps w) (k2 : Bool) (ks S : List Nat) (hS : ∀ x ∈ S, ∃ k ∈ ks, x ∈ B k) (hk2 : k2 = true → S = []) (c : Nat) (hc : c ≤ 1 ∨ k2 = true) (x : Nat) (hx : ¬ (ctx g H io B w).bad c x) : x ∉ S := by
  rcases hc with hc | hc
  · intro hs
    obtain ⟨k, _, hk⟩ := hS x hs
    have : c = 0 ∨ c = 1 := by omega
    rcases this with rfl | rfl
    · exact hx (.inl ⟨k, hk⟩)
    · exact hx ⟨k, hk⟩
  · rw [hk2 hc]; simp

theorem Rel.rdS (h : Rel g T H io B tmps w) (k2 : Bool) (ks S : List Nat) (forb : Nat → Prop) (hS : ∀ x ∈ S, ∃ k ∈ ks, x ∈ B k) {id sz off n cap : Nat} {es : List AV} {a : Option Addr} {u : Value}
    (hl : (killAll ks H)[id]? = some (some (.arr sz es))) (hn : off + n ≤ es.length) (hu : u = .slice a n cap) (hcap : n ≤ cap)
    (hr : cap = 0 ∨ 0 < cap ∧ ∃ b p, (ctx g H io B w).io id = some (b, p) ∧ a = some ⟨b, p + off * sz, none⟩ ∧ Room (ctx g H io B w).w b (p + off * sz) (cap * sz)) : R (cin w S forb) (.sl 1 sz (vwL 1 ((es.drop off).take n))) [] u := by
  obtain ⟨hk, hlive⟩ := killAll_get _ _ _ _ hl
  have hlen : ((es.drop off).take n).length = n := by simp; omega
  rw [R]
  refine ⟨rfl, a, cap, by rw [length_vwL, hlen]; exact hu, by rw [length_vwL, hlen]; exact hcap, ?_⟩
  rcases hr with h0 | ⟨_, b, p, hi, ha, _⟩
  · left
    have : n = 0 := by omega
    subst this; simp [vwL]
  · simp only [ctx] at hi
    rcases h.rows id _ hlive with ⟨_, _, h3⟩ | ⟨b', p', us, S', h1, h2, h3, h4, h5, h6, h7⟩
    · rw [h3] at hi; cases hi
    · rw [hi] at h1; cases h1
      obtain ⟨S1, S2, S3, us1, us2, us3, rfl, rfl, e1, e2, e3⟩ := rl_window off n h6 h7 hn
      have hc := h5.right.left
      rw [e1] at hc
      have hnS : ∀ x ∈ B id, x ∉ S := fun x hx hs => by obtain ⟨k, hk1, hk3⟩ := hS x hs; exact hk (h.dj _ _ _ hk3 hx ▸ hk1)
      rw [h2] at hnS
      refine .inr ⟨b, p + off * sz, us2, ha, h3, hnS b (by simp), hc, (h6.sub fun x hx => List.mem_of_mem_drop (List.mem_of_mem_take hx)).vw 1, ?_⟩
      rw [flatE_vwL]
      refine vwL_ok (C' := cin w S forb) 1 _ ((ctx g H io B w).at 0) (fun _ => rfl) rfl ?_ _ _ e3 (fun x hx => hnS x (by simp [hx]))
      intro d x _ hx
      simp only [Ctx.at, Classical.not_imp] at hx
      intro hs
      obtain ⟨k, _, hk3⟩ := hS x hs
      exact hx.2 (.inl ⟨k, hk3⟩)

mutual
/-- What has been read holds views of class 1 alone. -/
theorem rd0_close {C : Ctx} {k2 : Bool} {H : Heap} : ∀ (a t : AV) (u : Value), rd0 k2 H a = some t → R C t [] u → (∀ i, C.io i = none) → R (C.at 1) t [] u
  | .v x, t, u, hf, hr, _ => by rw [rd0] at hf; cases hf; exact hr.closeV 1
  | .sl c sz es, t, u, hf, hr, _ => by rw [rd0] at hf; split at hf <;> cases hf; exact hr.closeS
  | .vp c cs o, t, u, hf, hr, _ => by rw [rd0] at hf; split at hf <;> cases hf; exact hr.closeP
  | .os sz [], t, u, hf, hr, _ => by rw [rd0] at hf; cases hf; exact hr.closeS
  | .os sz (e :: es), t, u, hf, hr, _ => by simp [rd0] at hf
  | .ls sz id off n, t, u, hf, hr, _ => by
    rw [rd0] at hf; split at hf
    case h_2 => cases hf
    split at hf <;> cases hf; exact hr.closeS
  | .lw sz id off n, t, u, hf, hr, _ => by
    rw [rd0] at hf; split at hf
    case h_2 => cases hf
    split at hf <;> cases hf; exact hr.closeS
  | .lp sz id i o, t, u, hf, hr, _ => by
    rw [rd0] at hf; split at hf
    case h_2 => cases hf
    split at hf
    case isFalse => cases hf
    split at hf <;> cases hf; exact hr.closeP
  | .agg cs, t, u, hf, hr, hio => by
    rw [rd0] at hf
    cases hx : rd0L k2 H cs with
    | none => rw [hx] at hf; cases hf
    | some y =>
      rw [hx] at hf; cases hf
      rw [R] at *
      obtain ⟨us, hu, hrl⟩ := hr
      exact ⟨us, hu, rd0L_close cs y us hx hrl hio⟩
  | .fn f cs, t, u, hf, hr, hio => by
    rw [rd0] at hf
    cases hx : rd0L k2 H cs with
    | none => rw [hx] at hf; cases hf
    | some y =>
      rw [hx] at hf; cases hf
      rw [R] at *
      obtain ⟨us, hu, hrl⟩ := hr
      exact ⟨us, hu, rd0L_close cs y us hx hrl hio⟩
  | .bot, t, u, hf, hr, _ => by simp [rd0] at hf
  | .op .., t, u, hf, hr, _ => by simp [rd0] at hf
  | .tup .., t, u, hf, hr, _ => by simp [rd0] at hf
theorem rd0L_close {C : Ctx} {k2 : Bool} {H : Heap} : ∀ (as ts : List AV) (us : List Value), rd0L k2 H as = some ts → RL C ts [] us → (∀ i, C.io i = none) → RL (C.at 1) ts [] us
  | [], ts, us, hf, hr, _ => by rw [rd0L] at hf; cases hf; rw [RL] at *; exact hr
  | a :: as, ts, us, hf, hr, hio => by
    rw [rd0L] at hf
    split at hf
    case h_2 => cases hf
    rename_i x y hx hy
    cases hf
    rw [RL] at *
    obtain ⟨S1, S2, u, us', hSS, rfl, h1, h2⟩ := hr
    obtain ⟨rfl, rfl⟩ : S1 = [] ∧ S2 = [] := by simpa using hSS.symm
    exact ⟨[], [], u, us', rfl, rfl, rd0_close a x u hx h1 hio, rd0L_close as y us' hy h2 hio⟩
end

mutual
theorem rd0_ok (h : Rel g T H io B tmps w) (k2 : Bool) (ks S : List Nat) (forb : Nat → Prop) (hS : ∀ x ∈ S, ∃ k ∈ ks, x ∈ B k) (hk2 : k2 = true → S = []) : ∀ (a t : AV) (u : Value), rd0 k2 (killAll ks H) a = some t → R (ctx g H io B w) a [] u → R (cin w S forb) t [] u
  | .v x, t, u, hf, hr => by rw [rd0] at hf; cases hf; rw [R] at *; exact hr
  | .sl c sz es, t, u, hf, hr => by
    rw [rd0] at hf
    split at hf
    case isFalse => cases hf
    rename_i hc
    cases hf
    rw [R] at *
    obtain ⟨_, a, cap, hu, hcap, hr⟩ := hr
    refine ⟨rfl, a, cap, by rw [length_vwL]; exact hu, by rw [length_vwL]; exact hcap, ?_⟩
    rcases hr with rfl | ⟨b, p, us, ha, hb, hbad, hcells, hsz, hrl⟩
    · left; rfl
    · have hb1 := fun (_ : Nat) x (hx : ¬ (ctx g H io B w).bad c x) => h.bad1 k2 ks S hS hk2 c hc x hx
      refine .inr ⟨b, p, us, ha, hb, hb1 0 b hbad, hcells, hsz.vw 1, ?_⟩
      rw [flatE_vwL]
      exact vwL_ok (C' := cin w S forb) 1 _ ((ctx g H io B w).at c) (fun _ => rfl) rfl (fun d x _ hx => by simp only [Ctx.at, Classical.not_imp] at hx; exact hb1 0 x hx.2) _ _ hrl (by simp)
  | .vp c cs o, t, u, hf, hr => by
    rw [rd0] at hf
    split at hf
    case isFalse => cases hf
    rename_i hc
    cases hf
    rw [R] at *
    obtain ⟨_, b, p, us, hu, hb, hbad, hcells, hrl⟩ := hr
    have hb1 := fun x (hx : ¬ (ctx g H io B w).bad c x) => h.bad1 k2 ks S hS hk2 c hc x hx
    exact ⟨rfl, b, p, us, hu, hb, hb1 b hbad, hcells, vwL_ok (C' := cin w S forb) 1 _ ((ctx g H io B w).at c) (fun _ => rfl) rfl (fun d x _ hx => by simp only [Ctx.at, Classical.not_imp] at hx; exact hb1 x hx.2) _ _ hrl (by simp)⟩
  | .os sz [], t, u, hf, hr => by
    rw [rd0] at hf; cases hf
    rw [R] at hr; rw [R]
    obtain ⟨a, cap, hu, hcap, hr⟩ := hr
    rcases hr with ⟨rfl, _⟩ | ⟨_, b, p, us, S', hh, _⟩
    · exact ⟨rfl, a, 0, hu, hcap, .inl rfl⟩
    · cases hh
  | .os sz (e :: es), t, u, hf, hr => by simp [rd0] at hf
  | .ls sz id off n, t, u, hf, hr => by
    rw [rd0] at hf
    split at hf
    case h_2 => cases hf
    rename_i sz' es hl
    split at hf
    case isFalse => cases hf
    rename_i hc
    obtain ⟨rfl, hn⟩ := hc
    cases hf
    rw [R] at hr
    obtain ⟨_, hid, a, cap, hu, hcap, hr⟩ := hr
    exact h.rdS k2 ks S forb hS hl hn hu hcap (orB (fun hh => hh.1) (fun hh => hh) hr)
  | .lw sz id off n, t, u, hf, hr => by
    rw [rd0] at hf
    split at hf
    case h_2 => cases hf
    rename_i sz' es hl
    split at hf
    case isFalse => cases hf
    rename_i hc
    obtain ⟨rfl, hn⟩ := hc
    cases hf
    rw [R] at hr
    obtain ⟨_, a, cap, hu, hcap, hr⟩ := hr
    exact h.rdS k2 ks S forb hS hl hn hu hcap hr
  | .lp sz id i o, t, u, hf, hr => by
    rw [rd0] at hf
    split at hf
    case h_2 => cases hf
    rename_i sz' es hl
    split at hf
    case isFalse => cases hf
    rename_i hc; subst hc
    split at hf
    case h_2 => cases hf
    rename_i e he
    cases hf
    obtain ⟨hk, hlive⟩ := killAll_get _ _ _ _ hl
    rw [R] at hr
    obtain ⟨_, b, p, hi, hu⟩ := hr
    simp only [ctx] at hi
    rcases h.rows id _ hlive with ⟨h0, _, _⟩ | ⟨b', p', us, S', h1, h2, h3, h4, h5, h6, h7⟩
    · subst h0; simp at he
    · rw [hi] at h1; cases h1
      obtain ⟨S1, S2, S3, us1, us2, us3, rfl, rfl, e1, e2, _, e3, _⟩ := rl_elem h6 h7 he
      have hc := h5.right.left
      rw [e1] at hc
      have hn : ∀ x ∈ B id, x ∉ S := fun x hx hs => by obtain ⟨k, hk1, hk3⟩ := hS x hs; exact hk (h.dj _ _ _ hk3 hx ▸ hk1)
      rw [h2] at hn
      rw [R]
      exact ⟨rfl, b, p + i * sz', us2, hu, h3, hn b (by simp), hc, vwL_ok (C' := cin w S forb) 1 _ ((ctx g H io B w).at 0) (fun _ => rfl) rfl
        (fun d x _ hx => by simp only [Ctx.at, Classical.not_imp] at hx; exact h.bad1 k2 ks S hS hk2 0 (.inl (by omega)) x hx.2) _ _ e3 (fun x hx => hn x (by simp [hx]))⟩
  | .agg cs, t, u, hf, hr => by
    rw [rd0] at hf
    cases hx : rd0L k2 (killAll ks H) cs with
    | none => rw [hx] at hf; cases hf
    | some y =>
      rw [hx] at hf; cases hf
      rw [R] at *
      obtain ⟨us, hu, hrl⟩ := hr
      exact ⟨us, hu, rd0L_ok h k2 ks S forb hS hk2 cs y us hx hrl⟩
  | .fn f cs, t, u, hf, hr => by
    rw [rd0] at hf
    cases hx : rd0L k2 (killAll ks H) cs with
    | none => rw [hx] at hf; cases hf
    | some y =>
      rw [hx] at hf; cases hf
      rw [R] at *
      obtain ⟨us, hu, hrl⟩ := hr
      exact ⟨us, hu, rd0L_ok h k2 ks S forb hS hk2 cs y us hx hrl⟩
  | .bot, t, u, hf, hr => by simp [rd0] at hf
  | .op .., t, u, hf, hr => by simp [rd0] at hf
  | .tup .., t, u, hf, hr => by simp [rd0] at hf
theorem rd0L_ok (h : Rel g T H io B tmps w) (k2 : Bool) (ks S : List Nat) (forb : Nat → Prop) (hS : ∀ x ∈ S, ∃ k ∈ ks, x ∈ B k) (hk2 : k2 = true → S = []) : ∀ (as ts : List AV) (us : List Value), rd0L k2 (killAll ks H) as = some ts → RL (ctx g H io B w) as [] us → RL (cin w S forb) ts [] us
  | [], ts, us, hf, hr => by rw [rd0L] at hf; cases hf; rw [RL] at *; exact hr
  | a :: as, ts, us, hf, hr => by
    rw [rd0L] at hf
    split at hf
    case h_2 => cases hf
    rename_i x y hx hy
    cases hf
    rw [RL] at *
    obtain ⟨S1, S2, u, us', hSS, rfl, h1, h2⟩ := hr
    obtain ⟨rfl, rfl⟩ : S1 = [] ∧ S2 = [] := by simpa using hSS.symm
    exact ⟨[], [], u, us', rfl, rfl, rd0_ok h k2 ks S forb hS hk2 a x u hx h1, rd0L_ok h k2 ks S forb hS hk2 as y us' hy h2⟩
end

mutual
theorem rd_ok (h : Rel g T H io B tmps w) (k2 : Bool) (ks S : List Nat) (forb : Nat → Prop) (hS : ∀ x ∈ S, ∃ k ∈ ks, x ∈ B k) (hk2 : k2 = true → S = []) : ∀ (a t : AV) (u : Value), rd k2 (killAll ks H) a = some t → R (ctx g H io B w) a [] u → R (cin w S forb) t [] u
  | .lp sz id i o, t, u, hf, hr => by
    rw [rd] at hf
    split at hf
    · rename_i cs hl
      split at hf
      case isFalse => cases hf
      rename_i hi0; subst hi0
      cases hx : rd0L k2 (killAll ks H) cs with
      | none => rw [hx] at hf; cases hf
      | some y =>
        rw [hx] at hf; cases hf
        obtain ⟨hk, hlive⟩ := killAll_get _ _ _ _ hl
        rw [R] at hr
        obtain ⟨_, b, p, hi, hu⟩ := hr
        simp only [ctx] at hi
        obtain ⟨b', p', us, h1, h2, h3, h4, h5, h6⟩ := h.rows id _ hlive
        rw [hi] at h1; cases h1
        have hn : ∀ x ∈ B id, x ∉ S := fun x hx hs => by obtain ⟨k, hk1, hk3⟩ := hS x hs; exact hk (h.dj _ _ _ hk3 hx ▸ hk1)
        rw [h2] at hn
        rw [R]
        refine ⟨rfl, b, p, us, by simpa using hu, h3, hn b (by simp), h5, ?_⟩
        exact rd0L_close cs y us hx (rd0L_ok h k2 ks S forb hS hk2 cs y us hx h6) (fun _ => rfl)
    · exact rd0_ok h k2 ks S forb hS hk2 _ _ _ hf hr
  | .agg cs, t, u, hf, hr => by
    rw [rd] at hf
    cases hx : rdL k2 (killAll ks H) cs with
    | none => rw [hx] at hf; cases hf
    | some y =>
      rw [hx] at hf; cases hf
      rw [R] at *
      obtain ⟨us, hu, hrl⟩ := hr
      exact ⟨us, hu, rdL_ok h k2 ks S forb hS hk2 cs y us hx hrl⟩
  | .fn f cs, t, u, hf, hr => by
    rw [rd] at hf
    cases hx : rdL k2 (killAll ks H) cs with
    | none => rw [hx] at hf; cases hf
    | some y =>
      rw [hx] at hf; cases hf
      rw [R] at *
      obtain ⟨us, hu, hrl⟩ := hr
      exact ⟨us, hu, rdL_ok h k2 ks S forb hS hk2 cs y us hx hrl⟩
  | .v x, t, u, hf, hr => rd0_ok h k2 ks S forb hS hk2 _ _ _ (by simpa [rd] using hf) hr
  | .sl .., t, u, hf, hr => rd0_ok h k2 ks S forb hS hk2 _ _ _ (by simpa [rd] using hf) hr
  | .vp .., t, u, hf, hr => rd0_ok h k2 ks S forb hS hk2 _ _ _ (by simpa [rd] using hf) hr
  | .os .., t, u, hf, hr => rd0_ok h k2 ks S forb hS hk2 _ _ _ (by simpa [rd] using hf) hr
  | .ls .., t, u, hf, hr => rd0_ok h k2 ks S forb hS hk2 _ _ _ (by simpa [rd] using hf) hr
  | .lw .., t, u, hf, hr => rd0_ok h k2 ks S forb hS hk2 _ _ _ (by simpa [rd] using hf) hr
  | .bot, t, u, hf, hr => by simp [rd, rd0] at hf
  | .op .., t, u, hf, hr => by simp [rd, rd0] at hf
  | .tup .., t, u, hf, hr => by simp [rd, rd0] at hf
theorem rdL_ok (h : Rel g T H io B tmps w) (k2 : Bool) (ks S : List Nat) (forb : Nat → Prop) (hS : ∀ x ∈ S, ∃ k ∈ ks, x ∈ B k) (hk2 : k2 = true → S = []) : ∀ (as ts : List AV) (us : List Value), rdL k2 (killAll ks H) as = some ts → RL (ctx g H io B w) as [] us → RL (cin w S forb) ts [] us
  | [], ts, us, hf, hr => by rw [rdL] at hf; cases hf; rw [RL] at *; exact hr
  | a :: as, ts, us, hf, hr => by
    rw [rdL] at hf
    split at hf
    case h_2 => cases hf
    rename_i x y hx hy
    cases hf
    rw [RL] at *
    obtain ⟨S1, S2, u, us', hSS, rfl, h1, h2⟩ := hr
    obtain ⟨rfl, rfl⟩ : S1 = [] ∧ S2 = [] := by simpa using hSS.symm
    exact ⟨[], [], u, us', rfl, rfl, rd_ok h k2 ks S forb hS hk2 a x u hx h1, rdL_ok h k2 ks S forb hS hk2 as y us' hy h2⟩
end

end
end Go.Proofs.Dev

namespace Go.Proofs.Dev

def ownL (H : Heap) : List AV → List Bool → Option (List Nat)
  | [], [] => some []
  | a :: as, true :: ms => match fo H a, ownL H as ms with
    | some x, some y => some (x.2 ++ y)
    | _, _ => none
  | _ :: as, false :: ms => ownL H as ms
  | _, _ => none

def treesL (H Hk : Heap) (k2 : Bool) : List AV → List Bool → Option (List AV)
  | [], [] => some []
  | a :: as, true :: ms => match fo H a, treesL H Hk k2 as ms with
    | some x, some y => some (x.1 :: y)
    | _, _ => none
  | a :: as, false :: ms => match rd k2 Hk a, treesL H Hk k2 as ms with
    | some x, some y => some (x :: y)
    | _, _ => none
  | _, _ => none

def isBot : AV → Bool
  | .bot => true
  | _ => false

def backL : List AV → List Bool → List AV → Nat → Option (List (Nat × Row) × Nat)
  | [], [], [], k => some ([], k)
  | a :: as, true :: ms, t :: ts, k => match rv a t k with
    | some p => match backL as ms ts p.2 with
      | some q => some (p.1 ++ q.1, q.2)
      | none => none
    | none => none
  | _ :: as, false :: ms, t :: ts, k => if isBot t then backL as ms ts k else none
  | _, _, _, _ => none

section
variable {g : Env} {T : List AV} {H : Heap} {io : Nat → Option (Nat × Nat)} {B : Nat → List Nat} {tmps : Array Value} {w : World}

theorem Rel.own_step (h : Rel g T H io B tmps w) {S : List Nat} (hS : ∀ x ∈ S, ∃ k, x ∈ B k) : Step ((ctx g H io B w).at 0) (cin w S fun x => (∃ id, x ∈ B id) ∨ g.forb x) := by
  refine ⟨Nat.le_refl _, ?_, fun _ _ hx => by simp [Ctx.at] at hx, Nat.le_refl _, fun _ _ => rfl, fun _ _ _ hr => hr⟩
  intro c b _ hbad
  simp only [Ctx.at, Classical.not_imp] at hbad
  obtain ⟨rfl, hbad⟩ := hbad
  refine ⟨?_, rfl⟩
  show ¬ (b ∈ S ∨ _)
  rintro (h1 | h1)
  · exact hbad (.inl (hS b h1))
  · exact hbad h1

theorem Rel.args_ok (h : Rel g T H io B tmps w) (k2 : Bool) (K : List Nat) : ∀ (as : List AV) (ms : List Bool) (us : List Value) (ks : List Nat) (ts : List AV),
    ownL H as ms = some ks → treesL H (killAll K H) k2 as ms = some ts → RL (ctx g H io B w) as [] us →
    ∃ S, List.Sublist S (ks.flatMap B) ∧ (∀ i ∈ ks, ∃ r, Live H i r) ∧ ∀ S0 : List Nat, (∀ x ∈ S0, ∃ k ∈ K, x ∈ B k) → (k2 = true → S0 = []) → RL (cin w S0 fun x => (∃ id, x ∈ B id) ∨ g.forb x) ts S us
  | [], [], us, ks, ts, ho, ht, hr => by
    simp only [ownL] at ho; simp only [treesL] at ht; cases ho; cases ht
    refine ⟨[], by simp, by simp, fun S0 _ _ => ?_⟩
    rw [RL] at *; exact hr
  | a :: as, true :: ms, us, ks, ts, ho, ht, hr => by
    simp only [ownL] at ho; simp only [treesL] at ht
    split at ho
    case h_2 => cases ho
    rename_i x y hx hy
    rw [hx] at ht
    cases ho
    split at ht
    case h_2 => cases ht
    rename_i x' z hx' hz
    cases hx'; cases ht
    rw [RL] at hr
    obtain ⟨S1, S2, u, us', hSS, rfl, h1, h2⟩ := hr
    obtain ⟨rfl, rfl⟩ : S1 = [] ∧ S2 = [] := by simpa using hSS.symm
    obtain ⟨S3, h3, h4, h5⟩ := fo_ok h a x.1 x.2 u hx h1
    obtain ⟨S4, h6, h7, h8⟩ := Rel.args_ok h k2 K as ms us' y z hy hz h2
    refine ⟨S3 ++ S4, by rw [List.flatMap_append]; exact h4.append h6, ?_, fun S0 hS0 hk => ?_⟩
    · intro i hi
      rcases List.mem_append.1 hi with hi | hi
      · exact h5 i hi
      · exact h7 i hi
    · rw [RL]
      exact ⟨S3, S4, u, us', rfl, rfl, R.step (h.own_step fun x hx => by obtain ⟨k, _, hk⟩ := hS0 x hx; exact ⟨k, hk⟩) _ _ _ (fun _ _ => rfl) h3, h8 S0 hS0 hk⟩
  | a :: as, false :: ms, us, ks, ts, ho, ht, hr => by
    simp only [ownL] at ho; simp only [treesL] at ht
    split at ht
    case h_2 => cases ht
    rename_i x z hx hz
    cases ht
    rw [RL] at hr
    obtain ⟨S1, S2, u, us', hSS, rfl, h1, h2⟩ := hr
    obtain ⟨rfl, rfl⟩ : S1 = [] ∧ S2 = [] := by simpa using hSS.symm
    obtain ⟨S4, h6, h7, h8⟩ := Rel.args_ok h k2 K as ms us' ks z ho hz h2
    refine ⟨S4, h6, h7, fun S0 hS0 hk => ?_⟩
    rw [RL]
    exact ⟨[], S4, u, us', rfl, rfl, rd_ok h k2 K S0 _ hS0 hk a x u hx h1, h8 S0 hS0 hk⟩
  | [], _ :: _, us, ks, ts, ho, ht, hr => by simp [ownL] at ho
  | _ :: _, [], us, ks, ts, ho, ht, hr => by simp [ownL] at ho

theorem Rel.back_ok (h : Rel g T H io B tmps w) {Cp : Ctx} (hc : Closed Cp) : ∀ (as : List AV) (ms : List Bool) (ts : List AV) (us : List Value) (ks : List Nat) (k : Nat) (ps : List (Nat × Row)) (k' : Nat) (S : List Nat),
    ownL H as ms = some ks → RL (ctx g H io B w) as [] us → RL Cp ts S us → H.length ≤ k → ks.Nodup →
    backL as ms ts k = some (ps, k') → ∃ qs, Back H.length io qs ps S ks k k' ∧ ∀ C, Laid Cp C qs k' → ∀ q ∈ qs, RowR C q.row q.bs q.pl
  | [], [], [], us, ks, k, ps, k', S, ho, hx, ht, hk, hnd, hb => by
    simp only [ownL] at ho; simp only [backL] at hb; cases ho; cases hb
    rw [RL] at ht
    obtain ⟨rfl, _⟩ := ht
    exact ⟨[], Back.nil _ _ _, by simp⟩
  | a :: as, true :: ms, t :: ts, us, ks, k, ps, k', S, ho, hx, ht, hk, hnd, hb => by
    simp only [ownL] at ho; simp only [backL] at hb
    split at ho
    case h_2 => cases ho
    rename_i x y hx1 hy1
    cases ho
    split at hb
    case h_2 => cases hb
    rename_i p hp
    split at hb
    case h_2 => cases hb
    rename_i q hq
    cases hb
    rw [RL] at hx ht
    obtain ⟨S1, S2, u, us1, hS, rfl, h1, h2⟩ := hx
    obtain ⟨rfl, rfl⟩ : S1 = [] ∧ S2 = [] := by simpa using hS.symm
    obtain ⟨S3, S4, u', us2, rfl, hu, h3, h4⟩ := ht
    simp only [List.cons.injEq] at hu
    obtain ⟨rfl, rfl⟩ := hu
    rw [List.nodup_append] at hnd
    obtain ⟨qs1, b1, r1⟩ := rv_ok h hc a x.1 t x.2 k p.1 p.2 S3 u hx1 h1 h3 hk hnd.1 hp
    obtain ⟨qs2, b2, r2⟩ := Rel.back_ok h hc as ms ts us1 y p.2 q.1 q.2 S4 hy1 h2 h4 (Nat.le_trans hk b1.le) hnd.2.1 hq
    refine ⟨qs1 ++ qs2, b1.append b2 hk (fun i hi hi2 => hnd.2.2 i hi i hi2 rfl), ?_⟩
    intro C hC y hy
    rcases List.mem_append.1 hy with hy | hy
    · exact r1 C (hC.left b2.le) y hy
    · exact r2 C hC.right y hy
  | a :: as, false :: ms, t :: ts, us, ks, k, ps, k', S, ho, hx, ht, hk, hnd, hb => by
    simp only [ownL] at ho; simp only [backL] at hb
    split at hb
    case isFalse => cases hb
    rename_i hbot
    have : t = .bot := by cases t <;> simp [isBot] at hbot; rfl
    subst this
    rw [RL] at hx ht
    obtain ⟨S1, S2, u, us1, hS, rfl, h1, h2⟩ := hx
    obtain ⟨rfl, rfl⟩ : S1 = [] ∧ S2 = [] := by simpa using hS.symm
    obtain ⟨S3, S4, u', us2, rfl, hu, h3, h4⟩ := ht
    simp only [List.cons.injEq] at hu
    obtain ⟨rfl, rfl⟩ := hu
    rw [R] at h3
    subst h3
    exact Rel.back_ok h hc as ms ts us1 ks k ps k' S4 ho h2 h4 hk hnd hb
  | [], _ :: _, _, us, ks, k, ps, k', S, ho, hx, ht, hk, hnd, hb => by simp [ownL] at ho
  | _ :: _, [], _, us, ks, k, ps, k', S, ho, hx, ht, hk, hnd, hb => by simp [ownL] at ho
  | [], [], _ :: _, us, ks, k, ps, k', S, ho, hx, ht, hk, hnd, hb => by simp [backL] at hb
  | _ :: _, true :: _, [], us, ks, k, ps, k', S, ho, hx, ht, hk, hnd, hb => by simp [backL] at hb
  | _ :: _, false :: _, [], us, ks, k, ps, k', S, ho, hx, ht, hk, hnd, hb => by simp [backL] at hb

/-- What a call makes of slots and rows: nothing where the loan is not fit. -/
structure CallPre (H : Heap) (avs : List AV) (ms : List Bool) (ks : List Nat) (ts : List AV) : Prop where
  own : ownL H avs ms = some ks
  nd : ks.Nodup
  trees : treesL H (killAll ks H) ks.isEmpty avs ms = some ts

theorem call_ok (h : Rel g T H io B tmps w) (hg : ∀ x, g.forb x → x < g.w0.heap.size) {avs : List AV} {ms : List Bool} {us : List Value} (hr : RL (ctx g H io B w) avs [] us) {ks : List Nat} {ts : List AV}
    (hks : ownL H avs ms = some ks) (hnd : ks.Nodup) (hts : treesL H (killAll ks H) ks.isEmpty avs ms = some ts) {P : Program} {f : Nat} {post : AV → List AV → Prop} (hf : SoundSet P f ts post)
    {C : AV → List (Nat × Row) → Nat → Prop} (hbC : ∀ r ups, post r ups → ∃ ps k', backL avs ms ups (thaw r H.length).2.2 = some (ps, k') ∧ C r ps k') :
    Calls P f us.toArray w fun e w' => ∃ r ps k' v io' B', C r ps k' ∧ e = .returned v ∧
      Rel g (if ks.isEmpty then T else purgeL T) (setRows ((thaw r H.length).2.1 ++ ps) (padN (k' - H.length) (killAll ks (if ks.isEmpty then H else purgeH H)))) io' B' tmps w' ∧
      R (ctx g (setRows ((thaw r H.length).2.1 ++ ps) (padN (k' - H.length) (killAll ks (if ks.isEmpty then H else purgeH H)))) io' B' w') (thaw r H.length).1 [] v := by
  obtain ⟨S, hsub, hlive, hrl⟩ := h.args_ok ks.isEmpty ks avs ms us ks ts hks hts hr
  have hS : ∀ x ∈ S, ∃ k ∈ ks, x ∈ B k := fun x hx => mem_of_sub hsub hx
  have hpg : ks.isEmpty = true → S = [] := by
    intro he
    have : ks = [] := by simpa using he
    subst this
    simpa using hsub
  have hin := hrl S hS hpg
  refine Calls.mono (hf w _ us S hin (hsub.nodup (h.flat_nodup hnd)) (fun x hx => by obtain ⟨k, _, hk⟩ := hS x hx; exact h.lt k x hk) ?_) ?_
  · rintro x (⟨id, hx⟩ | hx)
    · exact h.lt id x hx
    · exact Nat.lt_of_lt_of_le (hg x hx) h.kept.size
  rintro e w' ⟨r, ups, hpost, v, S', rfl, hout, hnd', hmem, hkept⟩
  obtain ⟨ps, k', hb, hCr⟩ := hbC r ups hpost
  rw [RL] at hout
  obtain ⟨S1, S2, v', us', rfl, hvu, h1, h2⟩ := hout
  simp only [List.cons.injEq] at hvu
  obtain ⟨rfl, rfl⟩ := hvu
  have hcl : Closed (cout w' (S1 ++ S2) fun x => (∃ id, x ∈ B id) ∨ g.forb x) := by
    exact ⟨fun _ => rfl, rfl⟩
  obtain ⟨qs1, g1, l1⟩ := thaw_ok r _ H.length S1 v hcl h1
  obtain ⟨qs2, g2, l2⟩ := h.back_ok hcl avs ms ups us ks _ ps k' S2 hks hr h2 g1.le hnd hb
  have hle : H.length ≤ k' := Nat.le_trans g1.le g2.le
  have hids : ((qs1 ++ qs2).map (·.id)).Nodup := by
    rw [List.map_append, List.nodup_append]
    refine ⟨g1.ids, g2.ids, ?_⟩
    intro a ha b hb2 e
    obtain ⟨q, hq, rfl⟩ := List.mem_map.1 ha
    obtain ⟨q', hq', rfl⟩ := List.mem_map.1 hb2
    have := g1.range q hq
    rcases g2.range q' hq' with ⟨_, r1, _⟩ | r1 <;> omega
  have hbs : (qs1 ++ qs2).flatMap (·.bs) = S1 ++ S2 := by rw [List.flatMap_append, g1.bs, g2.bs]
  have hinS : ∀ x, (∃ q ∈ qs1 ++ qs2, x ∈ q.bs) ↔ x ∈ S1 ++ S2 := by intro x; rw [← hbs, List.mem_flatMap]
  have hps : prs (qs1 ++ qs2) = (thaw r H.length).2.1 ++ ps := by rw [← g1.ps, ← g2.ps]; simp [prs]
  have hset := h.settle (!ks.isEmpty) ks S hS (by intro hp; exact hpg (by simpa using hp)) w' hkept (qs1 ++ qs2) (k' - H.length) hids ?_ (by rw [hbs]; exact hnd') ?_ ?_ ?_
  · simp only [hps] at hset
    have e1 : (if (!ks.isEmpty) = true then purgeH H else H) = if ks.isEmpty = true then H else purgeH H := by cases ks.isEmpty <;> rfl
    have e2 : (if (!ks.isEmpty) = true then purgeL T else T) = if ks.isEmpty = true then T else purgeL T := by cases ks.isEmpty <;> rfl
    rw [e1, e2] at hset
    obtain ⟨s1, s2, s3, s4⟩ := hset
    refine ⟨r, ps, k', v, _, _, hCr, rfl, s1, ?_⟩
    refine (l1 (ctx g _ (ioQ (qs1 ++ qs2) io) (bQ (qs1 ++ qs2) ks B) w') ⟨rfl, ?_, fun q hq => s3 q (by simp [hq]), ?_⟩).1
    · intro c x hx
      cases c
      case succ => exact absurd trivial hx
      have hx' : ¬ (x ∈ S1 ++ S2 ∨ (∃ id, x ∈ B id) ∨ g.forb x) := hx
      rw [not_or] at hx'
      exact s4 x (by rw [hinS]; exact hx'.1) hx'.2
    · rw [s2]; have := g2.le; omega
  · intro q hq
    rcases List.mem_append.1 hq with hq | hq
    · have := g1.range q hq; have := g2.le; right; omega
    · rcases g2.range q hq with r1 | r1
      · exact .inl r1
      · have := g1.le; right; omega
  · intro q hq x hx
    exact hmem x ((hinS x).1 ⟨q, hq, hx⟩)
  · intro q hq
    rcases List.mem_append.1 hq with hq | hq
    · exact g1.head q hq
    · exact g2.head q hq
  · intro C' hw hbad hio hn q hq
    have hbad' : ∀ c x, ¬ (cout w' (S1 ++ S2) fun x => (∃ id, x ∈ B id) ∨ g.forb x).bad c x → ¬ C'.bad c x := by
      intro c x hx
      cases c
      case succ => exact absurd trivial hx
      have hx' : ¬ (x ∈ S1 ++ S2 ∨ (∃ id, x ∈ B id) ∨ g.forb x) := hx
      rw [not_or] at hx'
      exact hbad x (by rw [hinS]; exact hx'.1) hx'.2
    rcases List.mem_append.1 hq with hq | hq
    · exact (l1 C' ⟨hw, hbad', fun q hq => hio q (by simp [hq]), by have := g2.le; omega⟩).2 q hq
    · exact l2 C' ⟨hw, hbad', fun q hq => hio q (by simp [hq]), by omega⟩ q hq

end
end Go.Proofs.Dev

namespace Go.Proofs.Dev

section
variable {g : Env} {T : List AV} {H : Heap} {io : Nat → Option (Nat × Nat)} {B : Nat → List Nat} {tmps : Array Value} {w : World}

theorem flatE_set {es : List AV} {i : Nat} {e : AV} (h : i < es.length) : flatE (es.set i e) = flatE (es.take i) ++ (cellsE e ++ flatE (es.drop (i + 1))) := by
  rw [List.set_eq_take_append_cons_drop, if_pos h, flatE_append, flatE]

def takeH (H : Heap) (id i sz' : Nat) (es xs : List AV) (u : Value) : Heap := setRows [(id, .arr 1 (es.set i (.v u))), (H.length, .arr sz' xs)] (padN 1 (killAll [id] (purgeH H)))
def backH (H : Heap) (id k i sz' : Nat) (es ys : List AV) : Heap := setRows [(id, .arr 1 (es.set i (.os sz' ys)))] (padN 0 (killAll [id, k] (purgeH H)))

theorem Rel.take (h : Rel g T H io B tmps w) {id i sz' : Nat} {es xs : List AV} (hl : H[id]? = some (some (.arr 1 es))) (he : es[i]? = some (.os sz' xs)) :
    ∃ u io' B', Rel g (purgeL T) (takeH H id i sz' es xs u) io' B' tmps w ∧ R (ctx g (takeH H id i sz' es xs u) io' B' w) (.ls sz' H.length 0 xs.length) [] u := by
  have hidlt : id < H.length := Live.lt (r := .arr 1 es) hl
  have hilt : i < es.length := by
    rcases Nat.lt_or_ge i es.length with h1 | h1
    · exact h1
    · simp [h1] at he
  rcases h.rows id _ hl with ⟨h0, _⟩ | ⟨b, p, us, S, h1, h2, h3, h4, h5, h6, h7⟩
  · subst h0; simp at he
  obtain ⟨S1, S2, S3, us1, us2, us3, rfl, rfl, e1, e2, e3, e4, e5⟩ := rl_elem h6 h7 he
  obtain ⟨u, hu0, hu⟩ : ∃ u, us2 = [u] ∧ R ((ctx g H io B w).at 0) (.os sz' xs) S2 u := by
    have e4' : RL ((ctx g H io B w).at 0) [.os sz' xs] S2 us2 := e4
    rw [RL] at e4'
    obtain ⟨A1, A2, u, us', rfl, hus, a1, a2⟩ := e4'
    rw [RL] at a2
    obtain ⟨rfl, rfl⟩ := a2
    exact ⟨u, hus, by simpa using a1⟩
  subst hu0
  have hu' := hu
  rw [R, at_at] at hu'
  obtain ⟨a, cap, hu1, hcap, hu2⟩ := hu'
  obtain ⟨pl, hpl⟩ : ∃ pl : Option (Nat × Nat), (cap = 0 ∧ S2 = [] ∧ pl = none) ∨ 0 < cap ∧ ∃ b2 p2 us' S', S2 = b2 :: S' ∧ pl = some (b2, p2) ∧ a = some ⟨b2, p2, none⟩ ∧
      b2 < w.heap.size ∧ Room w b2 p2 (cap * sz') ∧ Cells w b2 p2 us' ∧ Sized sz' xs ∧ RL ((ctx g H io B w).at 0) (flatE xs) S' us' := by
    rcases hu2 with ⟨c0, hS2⟩ | ⟨c0, b2, p2, us', S', hS2, ha, hb2, hroom2, hcells2, hsz2, hrl2⟩
    · exact ⟨none, .inl ⟨c0, hS2, rfl⟩⟩
    · exact ⟨some (b2, p2), .inr ⟨c0, b2, p2, us', S', hS2, rfl, ha, hb2, hroom2, hcells2, hsz2, hrl2⟩⟩
  have hnd := h.nd id
  rw [h2] at hnd
  have hperm : List.Perm (b :: (S1 ++ (S2 ++ S3))) ((b :: (S1 ++ S3)) ++ S2) := by
    refine List.Perm.cons b ?_
    show List.Perm (S1 ++ (S2 ++ S3)) ((S1 ++ S3) ++ S2)
    rw [List.append_assoc]
    exact (List.perm_append_comm (l₁ := S2) (l₂ := S3)).append_left S1
  have hmemB : ∀ x, x ∈ (b :: (S1 ++ S3)) ++ S2 → x ∈ B id := fun x hx => by rw [h2]; exact hperm.mem_iff.2 hx
  let qs : List Q := [⟨id, .arr 1 (es.set i (.v u)), b :: (S1 ++ S3), some (b, p)⟩, ⟨H.length, .arr sz' xs, S2, pl⟩]
  have hqm : ∀ x, (∃ q ∈ qs, x ∈ q.bs) → x ∈ B id := by
    rintro x ⟨q, hq, hx⟩
    refine hmemB x ?_
    simp only [qs, List.mem_cons, List.not_mem_nil, or_false] at hq
    rcases hq with rfl | rfl
    · exact List.mem_append_left _ hx
    · exact List.mem_append_right _ hx
  have hset := h.settle true [id] (B id) (fun x hx => ⟨id, by simp, hx⟩) (by simp) w (Kept.refl _ _ _) qs 1 (by simp [qs]; omega) (by
      intro q hq
      simp only [qs, List.mem_cons, List.not_mem_nil, or_false] at hq
      rcases hq with rfl | rfl
      · exact .inl ⟨by simp, hidlt, h1.symm⟩
      · exact .inr ⟨Nat.le_refl _, Nat.lt_succ_self _⟩) (by
      show (qs.flatMap (·.bs)).Nodup
      simp only [qs, List.flatMap_cons, List.flatMap_nil, List.append_nil]
      exact hperm.nodup_iff.1 hnd) (by
      intro q hq x hx
      have hm := hqm x ⟨q, hq, hx⟩
      exact ⟨h.lt id x hm, .inr hm⟩) (by
      intro q hq b' p' e
      simp only [qs, List.mem_cons, List.not_mem_nil, or_false] at hq
      rcases hq with rfl | rfl
      · simp only [Option.some.injEq, Prod.mk.injEq] at e
        rw [← e.1]; simp
      · simp only at e
        rcases hpl with ⟨_, _, hp⟩ | ⟨_, b2, p2, us', S', hS2, hp, _⟩
        · rw [hp] at e; cases e
        · rw [hp] at e; cases e; rw [hS2]; simp) (by
      intro C' hw hbad hio hn q hq
      have hst : Step ((ctx g H io B w).at 0) (C'.at 0) := by
        refine ⟨by simp [Ctx.at, ctx, hw], ?_, fun _ _ hx => by simp [Ctx.at] at hx, Nat.le_refl _, fun _ _ => rfl, fun _ _ _ hr => by simpa [Ctx.at, ctx, hw] using hr⟩
        intro c x _ hx
        simp only [Ctx.at, Classical.not_imp] at hx ⊢
        obtain ⟨rfl, hx⟩ := hx
        refine ⟨⟨rfl, hbad x (fun hq => hx (.inl ⟨id, hqm x hq⟩)) hx⟩, by rw [hw]; rfl⟩
      have hh : ∀ x : Nat, (C'.at 0).w.heap[x]? = ((ctx g H io B w).at 0).w.heap[x]? := fun x => by show C'.w.heap[x]? = w.heap[x]?; rw [hw]
      simp only [qs, List.mem_cons, List.not_mem_nil, or_false] at hq
      rcases hq with rfl | rfl
      · refine .inr ⟨b, p, us1 ++ ([u] ++ us3), S1 ++ S3, rfl, rfl, by rw [hw]; exact h3, by rw [hw, List.length_set]; exact h4, by rw [hw]; exact h5, h6.set rfl, ?_⟩
        rw [flatE_set hilt]
        have m1 : RL (C'.at 0) (cellsE (.v u)) [] [u] := by
          show RL (C'.at 0) [.v u] [] [u]
          rw [RL]
          exact ⟨[], [], u, [], rfl, rfl, by rw [R]; exact ⟨rfl, rfl⟩, by rw [RL]; exact ⟨rfl, rfl⟩⟩
        exact (RL.step hst _ _ _ (fun x _ => hh x) e3).append (m1.append (RL.step hst _ _ _ (fun x _ => hh x) e5))
      · rcases hpl with ⟨c0, hS2, hp⟩ | ⟨c0, b2, p2, us', S', hS2, hp, ha, hb2, hroom2, hcells2, hsz2, hrl2⟩
        · have hx : xs = [] := List.length_eq_zero_iff.1 (by omega)
          exact .inl ⟨hx, hS2, hp⟩
        · refine .inr ⟨b2, p2, us', S', hp, hS2, by rw [hw]; exact hb2, ?_, by rw [hw]; exact hcells2, hsz2, RL.step hst _ _ _ (fun x _ => hh x) hrl2⟩
          rw [hw]
          intro j hj
          exact hroom2 j (Nat.lt_of_lt_of_le hj (Nat.mul_le_mul_right _ hcap)))
  obtain ⟨s1, s2, s3, s4⟩ := hset
  refine ⟨u, _, _, s1, ?_⟩
  have hk := s3 ⟨H.length, .arr sz' xs, S2, pl⟩ (by simp [qs])
  rw [R]
  refine ⟨rfl, ?_, a, cap, hu1, hcap, ?_⟩
  · have : (ctx g (takeH H id i sz' es xs u) (ioQ qs io) (bQ qs [id] B) w).n = H.length + 1 := s2
    omega
  · rcases hpl with ⟨c0, hS2, hp⟩ | ⟨c0, b2, p2, us', S', hS2, hp, ha, hb2, hroom2, hcells2, hsz2, hrl2⟩
    · exact .inl ⟨c0, by show ioQ qs io H.length = none; rw [← hp]; exact hk⟩
    · refine .inr ⟨c0, b2, p2, by show ioQ qs io H.length = _; rw [← hp]; exact hk, by simpa using ha, by simpa [ctx] using hroom2⟩

theorem Rel.giveBack (h : Rel g T H io B tmps w) {id k i sz' : Nat} {es ys : List AV} {u : Value} (hl : H[id]? = some (some (.arr 1 es))) (he : es[i]? = some (.v u)) (hk : H[k]? = some (some (.arr sz' ys))) (hne : k ≠ id)
    (hu : R (ctx g H io B w) (.ls sz' k 0 ys.length) [] u) : ∃ io' B', Rel g (purgeL T) (backH H id k i sz' es ys) io' B' tmps w := by
  have hidlt : id < H.length := Live.lt (r := .arr 1 es) hl
  have hilt : i < es.length := by
    rcases Nat.lt_or_ge i es.length with h1 | h1
    · exact h1
    · simp [h1] at he
  rcases h.rows id _ hl with ⟨h0, _⟩ | ⟨b, p, us, S, h1, h2, h3, h4, h5, h6, h7⟩
  · subst h0; simp at he
  obtain ⟨S1, S2, S3, us1, us2, us3, rfl, rfl, e1, e2, e3, e4, e5⟩ := rl_elem h6 h7 he
  obtain ⟨rfl, rfl⟩ : us2 = [u] ∧ S2 = [] := by
    have e4' : RL ((ctx g H io B w).at 0) [.v u] S2 us2 := e4
    rw [RL] at e4'
    obtain ⟨A1, A2, v, us', rfl, hus, a1, a2⟩ := e4'
    rw [RL] at a2
    rw [R] at a1
    obtain ⟨rfl, rfl⟩ := a2
    obtain ⟨rfl, rfl⟩ := a1
    exact ⟨hus, rfl⟩
  have hrk := h.rows k _ hk
  have hnd := h.nd id
  rw [h2] at hnd
  have hdj : ∀ x ∈ B k, x ∉ B id := fun x hx hx2 => hne (h.dj _ _ _ hx hx2)
  have hperm : List.Perm ((b :: (S1 ++ ([] ++ S3))) ++ B k) (b :: (S1 ++ (B k ++ S3))) := by
    refine List.Perm.cons b ?_
    show List.Perm ((S1 ++ ([] ++ S3)) ++ B k) (S1 ++ (B k ++ S3))
    rw [List.nil_append, List.append_assoc]
    exact (List.perm_append_comm (l₁ := S3) (l₂ := B k)).append_left S1
  have hmemB : ∀ x, x ∈ b :: (S1 ++ (B k ++ S3)) → x ∈ B id ∨ x ∈ B k := fun x hx => by
    have := hperm.mem_iff.2 hx
    rcases List.mem_append.1 this with h8 | h8
    · left; rw [h2]; exact h8
    · exact .inr h8
  let qs : List Q := [⟨id, .arr 1 (es.set i (.os sz' ys)), b :: (S1 ++ (B k ++ S3)), some (b, p)⟩]
  have hqm : ∀ x, (∃ q ∈ qs, x ∈ q.bs) → x ∈ B id ∨ x ∈ B k := by
    rintro x ⟨q, hq, hx⟩
    simp only [qs, List.mem_cons, List.not_mem_nil, or_false] at hq
    subst hq
    exact hmemB x hx
  have hset := h.settle true [id, k] (B id ++ B k) (fun x hx => by
      rcases List.mem_append.1 hx with h8 | h8
      · exact ⟨id, by simp, h8⟩
      · exact ⟨k, by simp, h8⟩) (by simp) w (Kept.refl _ _ _) qs 0 (by simp [qs]) (by
      intro q hq
      simp only [qs, List.mem_cons, List.not_mem_nil, or_false] at hq
      subst hq
      exact .inl ⟨by simp, hidlt, h1.symm⟩) (by
      show (qs.flatMap (·.bs)).Nodup
      simp only [qs, List.flatMap_cons, List.flatMap_nil, List.append_nil]
      refine hperm.nodup_iff.1 ?_
      rw [List.nodup_append]
      exact ⟨hnd, h.nd k, fun x hx y hy e => hdj y hy (by rw [← e, h2]; exact hx)⟩) (by
      intro q hq x hx
      rcases hqm x ⟨q, hq, hx⟩ with hm | hm
      · exact ⟨h.lt id x hm, .inr (List.mem_append_left _ hm)⟩
      · exact ⟨h.lt k x hm, .inr (List.mem_append_right _ hm)⟩) (by
      intro q hq b' p' e
      simp only [qs, List.mem_cons, List.not_mem_nil, or_false] at hq
      subst hq
      simp only [Option.some.injEq, Prod.mk.injEq] at e
      rw [← e.1]; simp) (by
      intro C' hw hbad hio hn q hq
      have hst : Step ((ctx g H io B w).at 0) (C'.at 0) := by
        refine ⟨by simp [Ctx.at, ctx, hw], ?_, fun _ _ hx => by simp [Ctx.at] at hx, Nat.le_refl _, fun _ _ => rfl, fun _ _ _ hr => by simpa [Ctx.at, ctx, hw] using hr⟩
        intro c x _ hx
        simp only [Ctx.at, Classical.not_imp] at hx ⊢
        obtain ⟨rfl, hx⟩ := hx
        refine ⟨⟨rfl, hbad x (fun hq => hx (.inl ?_)) hx⟩, by rw [hw]; rfl⟩
        rcases hqm x hq with h8 | h8
        · exact ⟨id, h8⟩
        · exact ⟨k, h8⟩
      have hh : ∀ x : Nat, (C'.at 0).w.heap[x]? = ((ctx g H io B w).at 0).w.heap[x]? := fun x => by show C'.w.heap[x]? = w.heap[x]?; rw [hw]
      simp only [qs, List.mem_cons, List.not_mem_nil, or_false] at hq
      subst hq
      refine .inr ⟨b, p, us1 ++ ([u] ++ us3), S1 ++ (B k ++ S3), rfl, rfl, by rw [hw]; exact h3, by rw [hw, List.length_set]; exact h4, by rw [hw]; exact h5, h6.set rfl, ?_⟩
      rw [flatE_set hilt]
      have m1 : RL (C'.at 0) (cellsE (.os sz' ys)) (B k) [u] := by
        show RL (C'.at 0) [.os sz' ys] (B k) [u]
        rw [RL]
        refine ⟨B k, [], u, [], by simp, rfl, ?_, by rw [RL]; exact ⟨rfl, rfl⟩⟩
        rw [R] at hu
        obtain ⟨_, _, a, cap, hu1, hcap, hu2⟩ := hu
        simp only [ctx] at hu2
        rw [R, at_at]
        refine ⟨a, cap, hu1, hcap, ?_⟩
        rcases hu2 with ⟨c0, hio0⟩ | ⟨c0, b2, p2, hi2, ha, hroom⟩
        · left
          refine ⟨c0, ?_⟩
          rcases hrk with ⟨_, hB, _⟩ | ⟨b', p', us', S', k1, _⟩
          · exact hB
          · rw [hio0] at k1; cases k1
        · right
          rcases hrk with ⟨_, _, k1⟩ | ⟨b', p', us', S', k1, k2, k3, k4, k5, k6, k7⟩
          · rw [hi2] at k1; cases k1
          · rw [hi2] at k1; cases k1
            simp only [Nat.zero_mul, Nat.add_zero] at ha hroom
            exact ⟨c0, b2, p2, us', S', k2, ha, by rw [show (C'.at 0).w = w from hw]; exact k3, by rw [show (C'.at 0).w = w from hw]; exact hroom, by rw [show (C'.at 0).w = w from hw]; exact k5, k6, RL.step hst _ _ _ (fun x _ => hh x) k7⟩
      exact (RL.step hst _ _ _ (fun x _ => hh x) e3).append (m1.append (RL.step hst _ _ _ (fun x _ => hh x) e5)))
  obtain ⟨s1, _, _, _⟩ := hset
  exact ⟨_, _, s1⟩

end
end Go.Proofs.Dev

namespace Go.Proofs.Dev
set_option linter.unusedVariables false

/-- Where is copied to. -/
def dstOf (H : Heap) : AV → Option (Nat × Nat × Nat × List AV)
  | .ls 1 id off n => match H[id]? with
    | some (some (.arr 1 es)) => if off + n ≤ es.length then some (id, off, n, es) else none
    | _ => none
  | .lw 1 id off n => match H[id]? with
    | some (some (.arr 1 es)) => if off + n ≤ es.length then some (id, off, n, es) else none
    | _ => none
  | _ => none

def acopy (H : Heap) (d s : AV) : Option (AV × Heap) := match dstOf H d, srcOf H 1 s with
  | some (id, off, n, es), some (xs, _, _) => if flatL xs = true then some (.v (.int .i64 (min n xs.length : Nat)), H.set id (some (.arr 1 (es.take off ++ xs.take (min n xs.length) ++ es.drop (off + min n xs.length))))) else none
  | _, _ => none

section
variable {P : Program} {g : Env} {T : List AV} {H : Heap} {io : Nat → Option (Nat × Nat)} {B : Nat → List Nat} {tmps : Array Value} {w : World}

theorem run_copy' {tS tX ty e : TypeId} {i : TypeInfo} (ht : P.underlying tS = some (.slice e)) (hi : P.info? e = some i) (h1 : i.size = 1) {b q n cap : Nat} {u : Value} {m : Nat} (hlen : ∀ w : World, (Builtin.lenOf u).run P w = .ok m w)
    {us : List Value} (hf : (Builtin.firstCells 1 (min n m) u).run P w = .ok us.toArray w) {w' : World} (hst : (storeCells ⟨b, q, none⟩ us).run P w = .ok () w') :
    (Builtin.copy_ #[tS, tX] ty #[.slice (some ⟨b, q, none⟩) n cap, u]).run P w = .ok (goInt (min n m : Nat)) w' := by
  have e1 : Nat.min m n = min n m := Nat.min_comm m n
  simp [Builtin.copy_, run_underlying ht, sizeOf, typeInfo, hi, h1, hlen w, e1, hf, hst]

theorem run_copy0 {tS tX ty e : TypeId} {i : TypeInfo} (ht : P.underlying tS = some (.slice e)) (hi : P.info? e = some i) {a a2 : Option Addr} {n cap m cap2 : Nat} (h0 : min n m = 0) :
    (Builtin.copy_ #[tS, tX] ty #[.slice a n cap, .slice a2 m cap2]).run P w = .ok (goInt 0) w := by
  have e1 : Nat.min m n = 0 := by rw [show Nat.min m n = min n m from Nat.min_comm m n]; exact h0
  have hf := run_firstCells0 (P := P) (w := w) a2 m cap2 i.size
  cases a <;> simp [Builtin.copy_, Builtin.lenOf, run_underlying ht, sizeOf, typeInfo, hi, e1, hf, storeCells]

theorem dst_ok (h : Rel g T H io B tmps w) {x : AV} {u : Value} {id off n : Nat} {es : List AV} (hx : R (ctx g H io B w) x [] u) (hs : dstOf H x = some (id, off, n, es)) :
    H[id]? = some (some (.arr 1 es)) ∧ off + n ≤ es.length ∧ ∃ a cap, u = .slice a n cap ∧ (n = 0 ∨ ∃ b p, io id = some (b, p) ∧ a = some ⟨b, p + off, none⟩) := by
  unfold dstOf at hs
  split at hs
  · rename_i id' off' n'
    split at hs
    case h_2 => cases hs
    rename_i es' hl
    split at hs
    case isFalse => cases hs
    rename_i hn
    cases hs
    rw [R] at hx
    obtain ⟨_, _, a, cap, rfl, hcap, hr⟩ := hx
    refine ⟨hl, hn, a, cap, rfl, ?_⟩
    rcases hr with ⟨rfl, _⟩ | ⟨_, b, p, hi, rfl, _⟩
    · left; omega
    · right; exact ⟨b, p, hi, by simp⟩
  · rename_i id' off' n'
    split at hs
    case h_2 => cases hs
    rename_i es' hl
    split at hs
    case isFalse => cases hs
    rename_i hn
    cases hs
    rw [R] at hx
    obtain ⟨_, a, cap, rfl, hcap, hr⟩ := hx
    refine ⟨hl, hn, a, cap, rfl, ?_⟩
    rcases hr with rfl | ⟨_, b, p, hi, rfl, _⟩
    · left; omega
    · right; exact ⟨b, p, hi, by simp⟩
  · cases hs

theorem flatL_take : ∀ (xs : List AV) (k : Nat), flatL xs = true → flatL (xs.take k) = true
  | [], k, _ => by simp [flatL]
  | x :: xs, 0, _ => by simp [flatL]
  | x :: xs, k + 1, h => by
    simp only [flatL, Bool.and_eq_true, List.take_succ_cons] at h ⊢
    exact ⟨h.1, flatL_take xs k h.2⟩

theorem copy_ok (h : Rel g T H io B tmps w) {tS tX ty e : TypeId} {i : TypeInfo} (ht : P.underlying tS = some (.slice e)) (hi : P.info? e = some i) (h1 : i.size = 1) {d s : AV} {ud us : Value} {av : AV} {H' : Heap}
    (hd : R (ctx g H io B w) d [] ud) (hs : R (ctx g H io B w) s [] us) (hop : acopy H d s = some (av, H')) :
    ∃ v w' io' B', (Builtin.copy_ #[tS, tX] ty #[ud, us]).run P w = .ok v w' ∧ Rel g T H' io' B' tmps w' ∧ R (ctx g H' io' B' w') av [] v := by
  unfold acopy at hop
  split at hop
  case h_2 => cases hop
  rename_i id off n es xs ks c hdst hsrc
  split at hop
  case isFalse => cases hop
  rename_i hflat
  cases hop
  obtain ⟨hl, hle, a, cap, rfl, ha⟩ := dst_ok h hd hdst
  obtain ⟨vs, S, a2, cap2, rfl, hcap2, hsz, hrl, _, hf, hsrc2⟩ := src_ok h hs hsrc
  have hidlt : id < H.length := Live.lt (r := .arr 1 es) hl
  by_cases h0 : min n xs.length = 0
  · refine ⟨_, w, io, B, run_copy0 ht hi h0, ?_, ?_⟩
    · rw [h0]
      have e2 : es.take off ++ xs.take 0 ++ es.drop (off + 0) = es := by simp
      rw [e2]
      have e3 : H.set id (some (.arr 1 es)) = H := by
        apply List.ext_getElem?
        intro j
        rw [List.getElem?_set]
        by_cases hj : id = j
        · subst hj; rw [if_pos rfl, if_pos hidlt, hl]
        · rw [if_neg hj]
      rw [e3]; exact h
    · rw [h0, R]; exact ⟨rfl, rfl⟩
  have hk0 : 0 < min n xs.length := Nat.pos_of_ne_zero h0
  have hkn : min n xs.length ≤ n := Nat.min_le_left _ _
  have hkx : min n xs.length ≤ xs.length := Nat.min_le_right _ _
  generalize hk : min n xs.length = k at *
  obtain ⟨b, p, hio, rfl⟩ : ∃ b p, io id = some (b, p) ∧ a = some ⟨b, p + off, none⟩ := by
    rcases ha with rfl | ha
    · omega
    · exact ha
  rcases h.rows id _ hl with ⟨h9, _, _⟩ | ⟨b', p', ws, S', g1, g2, g3, g4, g5, g6, g7⟩
  · subst h9; simp at hle; omega
  rw [hio] at g1; cases g1
  -- the source's first cells
  obtain ⟨T1, T2, T3, vs1, vs2, vs3, hT, hvs, t1, t2, t3⟩ := rl_window 0 k hsz hrl (by omega)
  have hv1 : vs1 = [] := List.length_eq_zero_iff.1 (by simpa using t1)
  subst hv1
  simp only [List.drop_zero, Nat.mul_one, List.nil_append] at t2 t3 hvs
  have hfl : flatL (xs.take k) = true := flatL_take xs k hflat
  obtain ⟨hT2, hany, hone⟩ := flatV_ok t3 (flatV_flatE hfl)
  have hcells : ∃ b2 q2, a2 = some ⟨b2, q2, none⟩ ∧ Cells w b2 q2 vs := by
    rcases hsrc2 with h8 | h8 | h8
    · omega
    · rw [h8] at hkx; simp at hkx; omega
    · exact h8
  obtain ⟨b2, q2, rfl, hc2⟩ := hcells
  rw [hvs] at hc2
  have hfc : (Builtin.firstCells 1 (min n xs.length) (.slice (some ⟨b2, q2, none⟩) xs.length cap2)).run P w = .ok vs2.toArray w := by
    rw [hk]; exact run_firstCells' hc2.left (by omega)
  -- the cells written
  have hroom : Room w b (p + off) k := fun j hj => by
    have := g4 (off + j) (by simp; omega)
    rwa [← Nat.add_assoc] at this
  obtain ⟨w', r1, r2, r3⟩ := run_storeCells' (P := P) vs2 w b (p + off) 0 (by simpa [t2] using hroom) hone
  have hrun := run_copy' (P := P) (w := w) (tX := tX) (ty := ty) ht hi h1 (b := b) (q := p + off) (n := n) (cap := cap) (fun w => by simp [Builtin.lenOf]) hfc (by simpa using r1)
  rw [hk] at hrun
  have r2' : Wrote b (p + off) k w w' := by simpa [t2] using r2
  have r3' : Cells w' b (p + off) vs2 := by simpa using r3
  -- the row's parts
  have he : es = es.take off ++ ((es.drop off).take k ++ (es.drop off).drop k) := by rw [List.take_append_drop, List.take_append_drop]
  have g7' := g7
  rw [he, flatE_append, flatE_append] at g7'
  obtain ⟨S1, S9, ws1, ws9, rfl, rfl, q1, q9⟩ := g7'.split
  obtain ⟨S2, S3, ws2, ws3, rfl, rfl, q2', q3⟩ := q9.split
  have l1 : ws1.length = off := by rw [q1.length, length_flatE (g6.sub fun x hx => List.mem_of_mem_take hx)]; simp; omega
  have l2 : ws2.length = k := by rw [q2'.length, length_flatE (g6.sub fun x hx => List.mem_of_mem_drop (List.mem_of_mem_take hx))]; simp; omega
  have hnd := h.nd id
  rw [g2] at hnd
  have hw := h.write hl hio [] (by simp) w' (.arr 1 (es.take off ++ xs.take k ++ es.drop (off + k))) (b :: (S1 ++ S3)) (by
      have : List.Sublist (b :: (S1 ++ S3)) (b :: (S1 ++ (S2 ++ S3))) := List.Sublist.cons_cons _ ((List.Sublist.refl _).append (List.sublist_append_right _ _))
      exact this.nodup hnd) (by
      intro y hy
      left
      rw [g2]
      rcases List.mem_cons.1 hy with rfl | hy
      · simp
      · rcases List.mem_append.1 hy with hy | hy <;> simp [hy]) r2'.size r2'.block r2'.room r2'.os r2'.tape r2'.output (by
      intro C' hCw hCio hst
      have hnew : (es.take off ++ xs.take k ++ es.drop (off + k)).length = es.length := by simp; omega
      have hxsz : Sized 1 (xs.take k) := hsz.sub fun x hx => List.mem_of_mem_take hx
      refine .inr ⟨b, p, ws1 ++ (vs2 ++ ws3), S1 ++ S3, rfl, rfl, by rw [hCw, r2'.size]; exact g3, ?_, ?_, ?_, ?_⟩
      · rw [hCw, hnew]; exact r2'.room _ _ _ g4
      · rw [hCw]
        intro j v hj
        rw [List.getElem?_append] at hj
        split at hj
        · rename_i hj1
          rw [r2'.other (p + j) (.inl (by omega))]
          exact g5 j v (by rw [List.getElem?_append_left hj1]; exact hj)
        · rename_i hj1
          rw [List.getElem?_append] at hj
          split at hj
          · rename_i hj2
            have := r3' (j - ws1.length) v hj
            rwa [show p + off + (j - ws1.length) = p + j by omega] at this
          · rename_i hj2
            rw [r2'.other (p + j) (.inr (by omega))]
            refine g5 j v ?_
            rw [List.getElem?_append_right (by omega), List.getElem?_append_right (by omega)]
            rw [show j - ws1.length - ws2.length = j - ws1.length - vs2.length by omega]; exact hj
      · intro x hx
        rcases List.mem_append.1 hx with hx | hx
        · rcases List.mem_append.1 hx with hx | hx
          · exact g6 x (List.mem_of_mem_take hx)
          · exact hxsz x hx
        · exact g6 x (List.mem_of_mem_drop hx)
      · rw [flatE_append, flatE_append, List.append_assoc, ← List.drop_drop]
        have hfr : ∀ y ∈ S1 ++ S3, C'.w.heap[y]? = w.heap[y]? := by
          intro y hy
          rw [hCw]
          refine r2'.block y ?_
          rintro rfl
          have h7 := hnd
          rw [List.nodup_cons] at h7
          exact h7.1 (by
            rcases List.mem_append.1 hy with hy | hy <;> simp [hy])
        have m1 := RL.step (hst.at 0) _ _ _ (fun y hy => hfr y (by simp [hy])) q1
        have m3 := RL.step (hst.at 0) _ _ _ (fun y hy => hfr y (by simp [hy])) q3
        have m2 := hany (C'.at 0)
        have := m1.append (m2.append m3)
        simpa using this)
  obtain ⟨w1, _⟩ := hw
  have eH : (killAll [] H).set id (some (Row.arr 1 (es.take off ++ xs.take k ++ es.drop (off + k)))) = H.set id (some (Row.arr 1 (es.take off ++ xs.take k ++ es.drop (off + k)))) := by simp [killAll]
  rw [eH] at w1
  exact ⟨_, w', io, _, hrun, w1, by rw [R]; exact ⟨rfl, rfl⟩⟩

end
end Go.Proofs.Dev
