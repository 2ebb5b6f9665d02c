/- Contracts of the functions of the program over slots and rows, each proved against the program itself; no condition beyond those that each theorem names. -/
import Derived.Test.YtfkmfobbgoflgaaGreatDoorAC
import Derived.Laws.BytesArg
set_option linter.unusedSimpArgs false
set_option linter.unusedVariables false
set_option maxRecDepth 100000
namespace Go.Proofs.Dev
mutual
def fo (H : AH) : AV → Option (AV × List Nat)
 | .v x => some (.v x, [])
 | .ls sz id off n => match H[id]? with
   | some (some (.arr sz' es)) => if sz' = sz ∧ off = 0 ∧ n = es.length then some (.os sz es, [id]) else none
   | _ => none
 | .lp _ id i o => match H[id]? with
   | some (some (.box cs)) => if i = 0 ∧ o = 0 then (fzL H cs).map fun x => (.op x.1, id :: x.2) else none
   | _ => none
 | .agg cs => (foL H cs).map fun x => (.agg x.1, x.2)
 | .fn f cs => (foL H cs).map fun x => (.fn f x.1, x.2)
 | .sl c sz es => if c = 0 then some (.sl 0 sz es, []) else none
 | _ => none
def foL (H : AH) : List AV → Option (List AV × List Nat)
 | [] => some ([], [])
 | a :: as => match fo H a, foL H as with
   | some x, some y => some (x.1 :: y.1, x.2 ++ y.2)
   | _, _ => none
end
mutual
def rv : AV → AV → Nat → Option (List (Nat × Row) × Nat)
 | .v _, .v _, k => some ([], k)
 | .ls sz id _ n, .os sz' es, k => if sz' = sz ∧ es.length = n then some ([(id, .arr sz es)], k) else none
 | .lp _ id _ _, .op cs, k => some ((id, .box (thawL cs k).1) :: (thawL cs k).2.1, (thawL cs k).2.2)
 | .agg xs, .agg ts, k => rvL xs ts k
 | .fn _ xs, .fn _ ts, k => rvL xs ts k
 | _, .bot, k => some ([], k)
 | _, _, _ => none
def rvL : List AV → List AV → Nat → Option (List (Nat × Row) × Nat)
 | [], [], k => some ([], k)
 | x :: xs, t :: ts, k => match rv x t k with
   | some p => match rvL xs ts p.2 with
     | some q => some (p.1 ++ q.1, q.2)
     | none => none
   | none => none
 | _, _, _ => none
end
mutual
theorem iV {H : AH} : ∀ (a a' : AV) (ks : List Nat), fz H a = some (a', ks) → ∀ i ∈ ks, ∃ r, Live H i r
 | .ls sz id off n, a', ks, hf, i, hi => by
   rw [fz] at hf
   split at hf
   case h_2 => cases hf
   rename_i hl
   split at hf <;> cases hf
   simp at hi; subst hi; exact ⟨_, hl⟩
 | .lw sz id off n, a', ks, hf, i, hi => by
   rw [fz] at hf
   split at hf
   case h_2 => cases hf
   rename_i hl
   split at hf <;> cases hf
   simp at hi; subst hi; exact ⟨_, hl⟩
 | .agg cs, a', ks, hf, i, hi => by
   rw [fz] at hf
   cases hx : fzL H cs with
   | none => rw [hx] at hf; cases hf
   | some x => rw [hx] at hf; cases hf; exact fzL_live cs x.1 x.2 (by rw [hx]) i hi
 | .tup cs, a', ks, hf, i, hi => by
   rw [fz] at hf
   cases hx : fzL H cs with
   | none => rw [hx] at hf; cases hf
   | some x => rw [hx] at hf; cases hf; exact fzL_live cs x.1 x.2 (by rw [hx]) i hi
 | .fn f cs, a', ks, hf, i, hi => by
   rw [fz] at hf
   cases hx : fzL H cs with
   | none => rw [hx] at hf; cases hf
   | some x => rw [hx] at hf; cases hf; exact fzL_live cs x.1 x.2 (by rw [hx]) i hi
 | .v x, a', ks, hf, i, hi => by rw [fz] at hf; cases hf; cases hi
 | .os sz es, a', ks, hf, i, hi => by rw [fz] at hf; cases hf; cases hi
 | .sl .., a', ks, hf, i, hi => by rw [fz] at hf; split at hf <;> cases hf; cases hi
 | .vp .., a', ks, hf, i, hi => by rw [fz] at hf; split at hf <;> cases hf; cases hi
 | .bot, a', ks, hf, i, hi => by simp [fz] at hf
 | .lp .., a', ks, hf, i, hi => by simp [fz] at hf
 | .op .., a', ks, hf, i, hi => by simp [fz] at hf
theorem fzL_live {H : AH} : ∀ (as as' : List AV) (ks : List Nat), fzL H as = some (as', ks) → ∀ i ∈ ks, ∃ r, Live H i r
 | [], as', ks, hf, i, hi => by rw [fzL] at hf; cases hf; cases hi
 | a :: as, as', ks, hf, i, hi => by
   rw [fzL] at hf
   split at hf
   case h_2 => cases hf
   rename_i x y hx hy
   cases hf
   rcases List.mem_append.1 hi with hi | hi
   ·exact iV a x.1 x.2 hx i hi
   ·exact fzL_live as y.1 y.2 hy i hi
end
section
variable {g : Env} {T : List AV} {H : AH} {io : Nat → Option (Nat × Nat)} {B : Nat → List Nat} {tmps : Array Value} {w : World}
mutual
theorem iW (h : Rel g T H io B tmps w) : ∀ (a a' : AV) (ks : List Nat) (u : Value), fo H a = some (a', ks) → R (ctx g H io B w) a [] u →
  ∃ S, R ((ctx g H io B w).at 0) a' S u ∧ List.Sublist S (ks.flatMap B) ∧ ∀ i ∈ ks, ∃ r, Live H i r
 | .v x, a', ks, u, hf, hr => by
   rw [fo] at hf; cases hf
   exact ⟨[], hr.closeV 0, by simp, by simp⟩
 | .ls sz id off n, a', ks, u, hf, hr => by
   rw [fo] at hf
   split at hf
   case h_2 => cases hf
   rename_i sz' es hl
   split at hf
   case isFalse => cases hf
   rename_i hc
   obtain ⟨rfl, rfl, rfl⟩ := hc
   cases hf
   rw [R] at hr
   obtain ⟨_, _, a, cap, hu, hcap, hr⟩ := hr
   simp only [ctx] at hr
   rcases hr with ⟨h0, hio⟩ | ⟨h0, b, p, hi, ha, hroom⟩
   ·refine ⟨[], ?_, by simp, by intro i hi; simp at hi; subst hi; exact ⟨_, hl⟩⟩
    rw [R]; exact ⟨a, cap, hu, hcap, .inl ⟨h0, rfl⟩⟩
   ·rcases h.rows id _ hl with ⟨_, _, h3⟩ | ⟨b', p', us, S, h1, h2, h3, h4, h5, h6, h7⟩
    ·rw [h3] at hi; cases hi
    ·rw [hi] at h1; cases h1
     refine ⟨b :: S, ?_, by simp [h2], by intro i hi; simp at hi; subst hi; exact ⟨_, hl⟩⟩
     rw [R]
     simp only [Nat.zero_mul, Nat.add_zero] at ha hroom
     exact ⟨a, cap, hu, hcap, .inr ⟨h0, b, p, us, S, rfl, ha, h3, hroom, h5, h6, by rw [PM]; exact h7⟩⟩
 | .lp sz id i o, a', ks, u, hf, hr => by
   rw [fo] at hf
   split at hf
   case h_2 => cases hf
   rename_i cs hl
   split at hf
   case isFalse => cases hf
   rename_i hc
   obtain ⟨rfl, rfl⟩ := hc
   cases hx : fzL H cs with
   | none => rw [hx] at hf; cases hf
   | some x =>
     rw [hx] at hf; cases hf
     rw [R] at hr
     obtain ⟨_, b, p, hi, hu⟩ := hr
     obtain ⟨b', p', us, h1, h2, h3, h4, h5, h6⟩ := h.rows id _ hl
     simp only [ctx] at hi
     rw [hi] at h1; cases h1
     obtain ⟨S, h7, h8⟩ := fzL_ok h cs x.1 x.2 us (by rw [hx]) h6
     refine ⟨b :: S, ?_, ?_, ?_⟩
     ·rw [R]
      have e : x.1.length = cs.length := by rw [← h7.length, ← h6.length]
      exact ⟨b, p, us, S, rfl, by simpa using hu, h3, by rw [e]; exact h4, h5, by rw [PM]; exact h7⟩
     ·rw [List.flatMap_cons, h2]
      exact List.Sublist.cons_cons _ (by simpa using h8)
     ·intro i hi2
      rcases List.mem_cons.1 hi2 with rfl | hi2
      ·exact ⟨_, hl⟩
      ·exact fzL_live cs x.1 x.2 (by rw [hx]) i hi2
 | .agg cs, a', ks, u, hf, hr => by
   rw [fo] at hf
   cases hx : foL H cs with
   | none => rw [hx] at hf; cases hf
   | some x =>
     rw [hx] at hf; cases hf
     rw [R] at hr
     obtain ⟨us, hu, hrl⟩ := hr
     obtain ⟨S, h1, h2, h3⟩ := foL_ok h cs x.1 x.2 us (by rw [hx]) hrl
     exact ⟨S, by rw [R]; exact ⟨us, hu, h1⟩, h2, h3⟩
 | .fn f cs, a', ks, u, hf, hr => by
   rw [fo] at hf
   cases hx : foL H cs with
   | none => rw [hx] at hf; cases hf
   | some x =>
     rw [hx] at hf; cases hf
     rw [R] at hr
     obtain ⟨us, hu, hrl⟩ := hr
     obtain ⟨S, h1, h2, h3⟩ := foL_ok h cs x.1 x.2 us (by rw [hx]) hrl
     exact ⟨S, by rw [R]; exact ⟨us, hu, h1⟩, h2, h3⟩
 | .bot, a', ks, u, hf, hr => by simp [fo] at hf
 | .sl c sz es, a', ks, u, hf, hr => by
   rw [fo] at hf
   split at hf
   case isFalse => cases hf
   rename_i hc
   subst hc; cases hf
   exact ⟨[], hr.closeS, by simp, by simp⟩
 | .vp .., a', ks, u, hf, hr => by simp [fo] at hf
 | .lw .., a', ks, u, hf, hr => by simp [fo] at hf
 | .os .., a', ks, u, hf, hr => by simp [fo] at hf
 | .op .., a', ks, u, hf, hr => by simp [fo] at hf
 | .tup .., a', ks, u, hf, hr => by simp [fo] at hf
theorem foL_ok (h : Rel g T H io B tmps w) : ∀ (as as' : List AV) (ks : List Nat) (us : List Value), foL H as = some (as', ks) → RL (ctx g H io B w) as [] us →
  ∃ S, RL ((ctx g H io B w).at 0) as' S us ∧ List.Sublist S (ks.flatMap B) ∧ ∀ i ∈ ks, ∃ r, Live H i r
 | [], as', ks, us, hf, hr => by
   rw [foL] at hf; cases hf
   exact ⟨[], by rw [RL] at *; exact hr, by simp, by simp⟩
 | a :: as, as', ks, us, hf, hr => by
   rw [foL] at hf
   split at hf
   case h_2 => cases hf
   rename_i x y hx hy
   cases hf
   rw [RL] at hr
   obtain ⟨S1, S2, u, us', hS, rfl, h1, h2⟩ := hr
   obtain ⟨rfl, rfl⟩ : S1 = [] ∧ S2 = [] := by simpa using hS.symm
   obtain ⟨S3, h3, h4, h5⟩ := iW h a x.1 x.2 u hx h1
   obtain ⟨S4, h6, h7, h8⟩ := foL_ok h as y.1 y.2 us' hy h2
   refine ⟨S3 ++ S4, by rw [RL]; exact ⟨S3, S4, u, us', rfl, rfl, h3, h6⟩, by rw [List.flatMap_append]; exact h4.append h7, ?_⟩
   intro i hi
   rcases List.mem_append.1 hi with hi | hi
   ·exact h5 i hi
   ·exact h8 i hi
end
end
section
variable {g : Env} {T : List AV} {H : AH} {io : Nat → Option (Nat × Nat)} {B : Nat → List Nat} {tmps : Array Value} {w : World}
structure Back (n : Nat) (io : Nat → Option (Nat × Nat)) (qs : List Q) (ps : List (Nat × Row)) (S : List Nat) (ks : List Nat) (k k' : Nat) : Prop where
 ps : prs qs = ps
 bs : qs.flatMap (·.bs) = S
 ids : (qs.map (·.id)).Nodup
 range : ∀ q ∈ qs, (q.id ∈ ks ∧ q.id < n ∧ q.pl = io q.id) ∨ (k ≤ q.id ∧ q.id < k')
 le : k ≤ k'
 head : ∀ q ∈ qs, ∀ b p, q.pl = some (b, p) → b ∈ q.bs
theorem Back.nil (n : Nat) (ks : List Nat) (k : Nat) : Back n io [] [] [] ks k k := ⟨rfl, rfl, by simp, by simp, Nat.le_refl _, by simp⟩
theorem Back.append {n : Nat} {qs qs' : List Q} {ps ps' : List (Nat × Row)} {S S' ks ks' : List Nat} {k k' k'' : Nat} (h : Back n io qs ps S ks k k') (h' : Back n io qs' ps' S' ks' k' k'') (hn : n ≤ k)
  (hd : ∀ i ∈ ks, i ∉ ks') : Back n io (qs ++ qs') (ps ++ ps') (S ++ S') (ks ++ ks') k k'' := by
 refine ⟨by simp [prs, ← h.ps, ← h'.ps], by rw [List.flatMap_append, h.bs, h'.bs], ?_, ?_, Nat.le_trans h.le h'.le, ?_⟩
 ·rw [List.map_append, List.nodup_append]
  refine ⟨h.ids, h'.ids, ?_⟩
  rintro a ha b hb rfl
  obtain ⟨q, hq, rfl⟩ := List.mem_map.1 ha
  obtain ⟨q', hq', e⟩ := List.mem_map.1 hb
  have hle := h.le
  rcases h.range q hq with ⟨r1, r2, _⟩ | ⟨r1, r2⟩ <;> rcases h'.range q' hq' with ⟨r3, r4, _⟩ | ⟨r3, r4⟩
  ·rw [e] at r3; exact hd _ r1 r3
  ·omega
  ·omega
  ·omega
 ·intro q hq
  have := h.le
  have := h'.le
  rcases List.mem_append.1 hq with hq | hq
  ·rcases h.range q hq with ⟨r1, r2⟩ | r1
   ·exact .inl ⟨by simp [r1], r2⟩
   ·right; omega
  ·rcases h'.range q hq with ⟨r1, r2⟩ | r1
   ·exact .inl ⟨by simp [r1], r2⟩
   ·right; omega
 ·intro q hq
  rcases List.mem_append.1 hq with hq | hq
  ·exact h.head q hq
  ·exact h'.head q hq
mutual
theorem kt (h : Rel g T H io B tmps w) {Cp : Ctx} (hc : Closed Cp) : ∀ (x tin t : AV) (ks : List Nat) (k : Nat) (ps : List (Nat × Row)) (k' : Nat) (S : List Nat) (u : Value), fo H x = some (tin, ks) → R (ctx g H io B w) x [] u → R Cp t S u → H.length ≤ k → ks.Nodup →
  rv x t k = some (ps, k') → ∃ qs, Back H.length io qs ps S ks k k' ∧ ∀ C, Laid Cp C qs k' → ∀ q ∈ qs, bi C q.row q.bs q.pl
 | .ls sz id off n, tin, t, ks, k, ps, k', S, u, hf, hx, ht, hk, hnd, hrv => by
   cases t with
   | os sz' es =>
     simp only [rv] at hrv
     split at hrv
     case isFalse => cases hrv
     rename_i hcond
     obtain ⟨rfl, rfl⟩ := hcond
     cases hrv
     rw [fo] at hf
     split at hf
     case h_2 => cases hf
     rename_i sz'' es0 hl
     split at hf
     case isFalse => cases hf
     rename_i hcond
     obtain ⟨_, rfl, _⟩ := hcond
     cases hf
     have hidlt : id < H.length := Live.lt (r := .arr sz'' es0) hl
     rw [R] at hx
     obtain ⟨_, _, a, cap, rfl, hcap, hr⟩ := hx
     simp only [ctx] at hr
     rw [R] at ht
     obtain ⟨a', cap', hu, hcap', hr'⟩ := ht
     cases hu
     rcases hr with ⟨h0, hio⟩ | ⟨h0, b, p, hi, ha, hroom⟩
     ·rcases hr' with ⟨_, rfl⟩ | ⟨h1, _⟩
      ·have he : es = [] := List.length_eq_zero_iff.1 (by omega)
       refine ⟨[⟨id, .arr sz' es, [], none⟩], ⟨rfl, rfl, by simp, ?_, Nat.le_refl _, by simp⟩, ?_⟩
       ·intro q hq; simp at hq; subst hq; exact .inl ⟨by simp, hidlt, hio.symm⟩
       ·intro C _ q hq; simp at hq; subst hq; exact .inl ⟨he, rfl, rfl⟩
      ·omega
     ·rcases hr' with ⟨h1, _⟩ | ⟨_, b', p', us, S', rfl, ha', hb, hroom', hcells, hsz, hrl⟩
      ·omega
      ·rw [ha] at ha'
       simp only [Nat.zero_mul, Nat.add_zero, Option.some.injEq, Addr.mk.injEq, and_true] at ha'
       obtain ⟨rfl, rfl⟩ := ha'
       refine ⟨[⟨id, .arr sz' es, b :: S', some (b, p)⟩], ⟨rfl, by simp, by simp, ?_, Nat.le_refl _, by simp⟩, ?_⟩
       ·intro q hq; simp at hq; subst hq; exact .inl ⟨by simp, hidlt, hi.symm⟩
       ·intro C hC q hq; simp at hq; subst hq
        have hst := hc.step hC.w hC.bad
        refine .inr ⟨b, p, us, S', rfl, rfl, by rw [hC.w]; exact hb, ?_, by rw [hC.w]; exact hcells, hsz, RL.step (hst.at 0) _ _ _ (fun x _ => by show C.w.heap[x]? = Cp.w.heap[x]?; rw [hC.w]) hrl⟩
        rw [hC.w]
        intro j hj
        exact hroom' j (Nat.lt_of_lt_of_le hj (Nat.mul_le_mul_right _ hcap))
   | bot =>
     have hS : S = [] := by simpa [R] using ht
     subst hS
     simp only [rv] at hrv; cases hrv
     exact ⟨[], Back.nil _ _ _, by simp⟩
   | _ => simp [rv] at hrv
 | .lp sz id i o, tin, t, ks, k, ps, k', S, u, hf, hx, ht, hk, hnd, hrv => by
   cases t with
   | op cs =>
     simp only [rv] at hrv
     cases hrv
     rw [fo] at hf
     split at hf
     case h_2 => cases hf
     rename_i cs0 hl
     split at hf
     case isFalse => cases hf
     rename_i hcond
     obtain ⟨rfl, rfl⟩ := hcond
     cases hxx : fzL H cs0 with
     | none => rw [hxx] at hf; cases hf
     | some xx =>
       rw [hxx] at hf; cases hf
       have hidlt : id < H.length := Live.lt (r := .box cs0) hl
       rw [R] at hx
       obtain ⟨_, b, p, hi, rfl⟩ := hx
       simp only [ctx] at hi
       rw [R] at ht
       obtain ⟨b', p', us, S', rfl, hu, hb, hroom, hcells, hrl⟩ := ht
       simp only [Nat.zero_mul, Nat.add_zero, Value.pointer.injEq, Option.some.injEq, Addr.mk.injEq, and_true] at hu
       obtain ⟨rfl, rfl⟩ := hu
       obtain ⟨qs, h1, h2⟩ := thawL_ok cs (Cp.at 0) k S' us hc.at hrl
       refine ⟨⟨id, .box (thawL cs k).1, [b], some (b, p)⟩ :: qs, ⟨by simp [prs, ← h1.ps], by simp [h1.bs], ?_, ?_, h1.le, ?_⟩, ?_⟩
       ·rw [List.map_cons, List.nodup_cons]
        refine ⟨?_, h1.ids⟩
        intro hm
        obtain ⟨q, hq, e⟩ := List.mem_map.1 hm
        have := (h1.range q hq).1
        simp only at e; omega
       ·intro q hq
        rcases List.mem_cons.1 hq with rfl | hq
        ·exact .inl ⟨by simp, hidlt, hi.symm⟩
        ·exact .inr (h1.range q hq)
       ·intro q hq
        rcases List.mem_cons.1 hq with rfl | hq
        ·intro b' p' e; cases e; simp
        ·exact h1.head q hq
       ·intro C hC q hq
        obtain ⟨h3, h4⟩ := h2 C ⟨hC.w, fun c x hx => by (simp only [Ctx.at, Classical.not_imp] at hx; obtain ⟨rfl, hx⟩ := hx; exact hC.bad 0 x hx), fun q hq => hC.io q (by simp [hq]), hC.n⟩
        rcases List.mem_cons.1 hq with rfl | hq
        ·have e : (thawL cs k).1.length = cs.length := by rw [← h3.length, ← hrl.length]
         exact ⟨b, p, us, rfl, rfl, by rw [hC.w]; exact hb, by rw [hC.w, e]; exact hroom, by rw [hC.w]; exact hcells, h3⟩
        ·exact h4 q hq
   | bot =>
     have hS : S = [] := by simpa [R] using ht
     subst hS
     simp only [rv] at hrv; cases hrv
     exact ⟨[], Back.nil _ _ _, by simp⟩
   | _ => simp [rv] at hrv
 | .agg xs, tin, t, ks, k, ps, k', S, u, hf, hx, ht, hk, hnd, hrv => by
   cases t with
   | agg ts =>
     simp only [rv] at hrv
     rw [fo] at hf
     cases hxx : foL H xs with
     | none => rw [hxx] at hf; cases hf
     | some xx =>
       rw [hxx] at hf; cases hf
       rw [R] at hx ht
       obtain ⟨us, rfl, hrl⟩ := hx
       obtain ⟨us', hu, hrl'⟩ := ht
       have : us = us' := by simpa using hu
       subst this
       exact rvL_ok h hc xs xx.1 ts xx.2 k ps k' S us (by rw [hxx]) hrl hrl' hk hnd hrv
   | bot =>
     have hS : S = [] := by simpa [R] using ht
     subst hS
     simp only [rv] at hrv; cases hrv
     exact ⟨[], Back.nil _ _ _, by simp⟩
   | _ => simp [rv] at hrv
 | .fn f xs, tin, t, ks, k, ps, k', S, u, hf, hx, ht, hk, hnd, hrv => by
   cases t with
   | fn f' ts =>
     simp only [rv] at hrv
     rw [fo] at hf
     cases hxx : foL H xs with
     | none => rw [hxx] at hf; cases hf
     | some xx =>
       rw [hxx] at hf; cases hf
       rw [R] at hx ht
       obtain ⟨us, rfl, hrl⟩ := hx
       obtain ⟨us', hu, hrl'⟩ := ht
       have : us = us' := by simp at hu; exact hu.2
       subst this
       exact rvL_ok h hc xs xx.1 ts xx.2 k ps k' S us (by rw [hxx]) hrl hrl' hk hnd hrv
   | bot =>
     have hS : S = [] := by simpa [R] using ht
     subst hS
     simp only [rv] at hrv; cases hrv
     exact ⟨[], Back.nil _ _ _, by simp⟩
   | _ => simp [rv] at hrv
 | .v x, tin, t, ks, k, ps, k', S, u, hf, hx, ht, hk, hnd, hrv => by
   cases t with
   | v y =>
     have hS : S = [] := by simp only [R] at ht; exact ht.1
     subst hS
     simp only [rv] at hrv; cases hrv
     exact ⟨[], Back.nil _ _ _, by simp⟩
   | bot =>
     have hS : S = [] := by simpa [R] using ht
     subst hS
     simp only [rv] at hrv; cases hrv
     exact ⟨[], Back.nil _ _ _, by simp⟩
   | _ => simp [rv] at hrv
 | .bot, tin, t, ks, k, ps, k', S, u, hf, hx, ht, hk, hnd, hrv => by simp [fo] at hf
 | .sl c sz es, tin, t, ks, k, ps, k', S, u, hf, hx, ht, hk, hnd, hrv => by
   cases t with
   | bot =>
     have hS : S = [] := by simpa [R] using ht
     subst hS
     simp only [rv] at hrv; cases hrv
     exact ⟨[], Back.nil _ _ _, by simp⟩
   | _ => simp [rv] at hrv
 | .vp .., tin, t, ks, k, ps, k', S, u, hf, hx, ht, hk, hnd, hrv => by simp [fo] at hf
 | .lw .., tin, t, ks, k, ps, k', S, u, hf, hx, ht, hk, hnd, hrv => by simp [fo] at hf
 | .os .., tin, t, ks, k, ps, k', S, u, hf, hx, ht, hk, hnd, hrv => by simp [fo] at hf
 | .op .., tin, t, ks, k, ps, k', S, u, hf, hx, ht, hk, hnd, hrv => by simp [fo] at hf
 | .tup .., tin, t, ks, k, ps, k', S, u, hf, hx, ht, hk, hnd, hrv => by simp [fo] at hf
theorem rvL_ok (h : Rel g T H io B tmps w) {Cp : Ctx} (hc : Closed Cp) : ∀ (xs tins ts : List AV) (ks : List Nat) (k : Nat) (ps : List (Nat × Row)) (k' : Nat) (S : List Nat) (us : List Value), foL H xs = some (tins, ks) → RL (ctx g H io B w) xs [] us → RL Cp ts S us → H.length ≤ k → ks.Nodup →
  rvL xs ts k = some (ps, k') → ∃ qs, Back H.length io qs ps S ks k k' ∧ ∀ C, Laid Cp C qs k' → ∀ q ∈ qs, bi C q.row q.bs q.pl
 | [], tins, [], ks, k, ps, k', S, us, hf, hx, ht, hk, hnd, hrv => by
   rw [RL] at ht
   obtain ⟨rfl, rfl⟩ := ht
   simp only [rvL] at hrv; cases hrv
   exact ⟨[], Back.nil _ _ _, by simp⟩
 | x :: xs, tins, t :: ts, ks, k, ps, k', S, us, hf, hx, ht, hk, hnd, hrv => by
   simp only [rvL] at hrv
   split at hrv
   case h_2 => cases hrv
   rename_i p hp
   split at hrv
   case h_2 => cases hrv
   rename_i q hq
   cases hrv
   rw [foL] at hf
   split at hf
   case h_2 => cases hf
   rename_i a b ha hb
   cases hf
   rw [RL] at hx ht
   obtain ⟨S1, S2, u, us1, hS, rfl, h1, h2⟩ := hx
   obtain ⟨rfl, rfl⟩ : S1 = [] ∧ S2 = [] := by simpa using hS.symm
   obtain ⟨S3, S4, u', us2, rfl, hu, h3, h4⟩ := ht
   simp only [List.cons.injEq] at hu
   obtain ⟨rfl, rfl⟩ := hu
   rw [List.nodup_append] at hnd
   obtain ⟨qs1, b1, r1⟩ := kt h hc x a.1 t a.2 k p.1 p.2 S3 u ha h1 h3 hk hnd.1 hp
   obtain ⟨qs2, b2, r2⟩ := rvL_ok h hc xs b.1 ts b.2 p.2 q.1 q.2 S4 us1 hb h2 h4 (Nat.le_trans hk b1.le) hnd.2.1 hq
   refine ⟨qs1 ++ qs2, b1.append b2 hk (fun i hi hi2 => hnd.2.2 i hi i hi2 rfl), ?_⟩
   intro C hC y hy
   rcases List.mem_append.1 hy with hy | hy
   ·exact r1 C (hC.left b2.le) y hy
   ·exact r2 C hC.right y hy
 | [], tins, t :: ts, ks, k, ps, k', S, us, hf, hx, ht, hk, hnd, hrv => by simp [rvL] at hrv
 | x :: xs, tins, [], ks, k, ps, k', S, us, hf, hx, ht, hk, hnd, hrv => by simp [rvL] at hrv
end
end
mutual
def rd0 (k2 : Bool) (H : AH) : AV → Option AV
 | .v x => some (.v x)
 | .sl c sz es => if c ≤ 1 ∨ k2 = true then some (.sl 1 sz (vwL 1 es)) else none
 | .vp c cs o => if c ≤ 1 ∨ k2 = true then some (.vp 1 (vwL 1 cs) o) else none
 | .os sz [] => some (.sl 1 sz [])
 | .ls sz id off n => match H[id]? with
   | some (some (.arr sz' es)) => if sz' = sz ∧ off + n ≤ es.length then some (.sl 1 sz (vwL 1 ((es.drop off).take n))) else none
   | _ => none
 | .lw sz id off n => match H[id]? with
   | some (some (.arr sz' es)) => if sz' = sz ∧ off + n ≤ es.length then some (.sl 1 sz (vwL 1 ((es.drop off).take n))) else none
   | _ => none
 | .lp sz id i o => match H[id]? with
   | some (some (.arr sz' es)) => if sz' = sz then (match es[i]? with | some e => some (.vp 1 (vwL 1 (Ab e)) o) | none => none) else none
   | _ => none
 | .agg cs => (rd0L k2 H cs).map .agg
 | .fn f cs => (rd0L k2 H cs).map (.fn f)
 | _ => none
def rd0L (k2 : Bool) (H : AH) : List AV → Option (List AV)
 | [] => some []
 | a :: as => match rd0 k2 H a, rd0L k2 H as with
   | some x, some y => some (x :: y)
   | _, _ => none
end
mutual
def rd (k2 : Bool) (H : AH) : AV → Option AV
 | .lp sz id i o => match H[id]? with
   | some (some (.box cs)) => if i = 0 then (rd0L k2 H cs).map (.vp 1 · o) else none
   | _ => rd0 k2 H (.lp sz id i o)
 | .agg cs => (rdL k2 H cs).map .agg
 | .fn f cs => (rdL k2 H cs).map (.fn f)
 | a => rd0 k2 H a
def rdL (k2 : Bool) (H : AH) : List AV → Option (List AV)
 | [] => some []
 | a :: as => match rd k2 H a, rdL k2 H as with
   | some x, some y => some (x :: y)
   | _, _ => none
end
theorem Oy (ks : List Nat) (H : AH) (id : Nat) (r : Row) (h : (AG ks H)[id]? = some (some r)) : id ∉ ks ∧ Live H id r := (D1 ks H id r).1 h
section
variable {g : Env} {T : List AV} {H : AH} {io : Nat → Option (Nat × Nat)} {B : Nat → List Nat} {tmps : Array Value} {w : World}
theorem Rel.bad1 (h : Rel g T H io B tmps w) (k2 : Bool) (ks S : List Nat) (hS : ∀ x ∈ S, ∃ k ∈ ks, x ∈ B k) (hk2 : k2 = true → S = []) (c : Nat) (hc : c ≤ 1 ∨ k2 = true) (x : Nat) (hx : ¬ (ctx g H io B w).bad c x) : x ∉ S := by
 rcases hc with hc | hc
 ·intro hs
  obtain ⟨k, _, hk⟩ := hS x hs
  have : c = 0 ∨ c = 1 := by omega
  rcases this with rfl | rfl
  ·exact hx (.inl ⟨k, hk⟩)
  ·exact hx ⟨k, hk⟩
 ·rw [hk2 hc]; simp
theorem Rel.rdS (h : Rel g T H io B tmps w) (k2 : Bool) (ks S : List Nat) (forb : Nat → Prop) (hS : ∀ x ∈ S, ∃ k ∈ ks, x ∈ B k) {id sz off n cap : Nat} {es : List AV} {a : Option Addr} {u : Value}
  (hl : (AG ks H)[id]? = some (some (.arr sz es))) (hn : off + n ≤ es.length) (hu : u = .slice a n cap) (hcap : n ≤ cap)
  (hr : cap = 0 ∨ 0 < cap ∧ ∃ b p, (ctx g H io B w).io id = some (b, p) ∧ a = some ⟨b, p + off * sz, none⟩ ∧ Ns (ctx g H io B w).w b (p + off * sz) (cap * sz)) : R (cin w S forb) (.sl 1 sz (vwL 1 ((es.drop off).take n))) [] u := by
 obtain ⟨hk, hlive⟩ := Oy _ _ _ _ hl
 have hlen : ((es.drop off).take n).length = n := by simp; omega
 rw [R]
 refine ⟨rfl, a, cap, by rw [DY, hlen]; exact hu, by rw [DY, hlen]; exact hcap, ?_⟩
 rcases hr with h0 | ⟨_, b, p, hi, ha, _⟩
 ·left
  have : n = 0 := by omega
  subst this; simp [vwL]
 ·simp only [ctx] at hi
  rcases h.rows id _ hlive with ⟨_, _, h3⟩ | ⟨b', p', us, S', h1, h2, h3, h4, h5, h6, h7⟩
  ·rw [h3] at hi; cases hi
  ·rw [hi] at h1; cases h1
   obtain ⟨S1, S2, S3, us1, us2, us3, rfl, rfl, e1, e2, e3⟩ := Hs off n h6 h7 hn
   have hc := h5.right.left
   rw [e1] at hc
   have hnS : ∀ x ∈ B id, x ∉ S := fun x hx hs => by obtain ⟨k, hk1, hk3⟩ := hS x hs; exact hk (h.dj _ _ _ hk3 hx ▸ hk1)
   rw [h2] at hnS
   refine .inr ⟨b, p + off * sz, us2, ha, h3, hnS b (by simp), hc, (h6.sub fun x hx => List.mem_of_mem_drop (List.mem_of_mem_take hx)).vw 1, ?_⟩
   rw [MM]
   refine vwL_ok (C' := cin w S forb) 1 _ ((ctx g H io B w).at 0) (fun _ => rfl) rfl ?_ _ _ e3 (fun x hx => hnS x (by simp [hx]))
   intro d x _ hx
   simp only [Ctx.at, Classical.not_imp] at hx
   intro hs
   obtain ⟨k, _, hk3⟩ := hS x hs
   exact hx.2 (.inl ⟨k, hk3⟩)
mutual
theorem cH {C : Ctx} {k2 : Bool} {H : AH} : ∀ (a t : AV) (u : Value), rd0 k2 H a = some t → R C t [] u → (∀ i, C.io i = none) → R (C.at 1) t [] u
 | .v x, t, u, hf, hr, _ => by rw [rd0] at hf; cases hf; exact hr.closeV 1
 | .sl c sz es, t, u, hf, hr, _ => by rw [rd0] at hf; split at hf <;> cases hf; exact hr.closeS
 | .vp c cs o, t, u, hf, hr, _ => by rw [rd0] at hf; split at hf <;> cases hf; exact hr.closeP
 | .os sz [], t, u, hf, hr, _ => by rw [rd0] at hf; cases hf; exact hr.closeS
 | .os sz (e :: es), t, u, hf, hr, _ => by simp [rd0] at hf
 | .ls sz id off n, t, u, hf, hr, _ => by
   rw [rd0] at hf; split at hf
   case h_2 => cases hf
   split at hf <;> cases hf; exact hr.closeS
 | .lw sz id off n, t, u, hf, hr, _ => by
   rw [rd0] at hf; split at hf
   case h_2 => cases hf
   split at hf <;> cases hf; exact hr.closeS
 | .lp sz id i o, t, u, hf, hr, _ => by
   rw [rd0] at hf; split at hf
   case h_2 => cases hf
   split at hf
   case isFalse => cases hf
   split at hf <;> cases hf; exact hr.closeP
 | .agg cs, t, u, hf, hr, hio => by
   rw [rd0] at hf
   cases hx : rd0L k2 H cs with
   | none => rw [hx] at hf; cases hf
   | some y =>
     rw [hx] at hf; cases hf
     rw [R] at *
     obtain ⟨us, hu, hrl⟩ := hr
     exact ⟨us, hu, rd0L_close cs y us hx hrl hio⟩
 | .fn f cs, t, u, hf, hr, hio => by
   rw [rd0] at hf
   cases hx : rd0L k2 H cs with
   | none => rw [hx] at hf; cases hf
   | some y =>
     rw [hx] at hf; cases hf
     rw [R] at *
     obtain ⟨us, hu, hrl⟩ := hr
     exact ⟨us, hu, rd0L_close cs y us hx hrl hio⟩
 | .bot, t, u, hf, hr, _ => by simp [rd0] at hf
 | .op .., t, u, hf, hr, _ => by simp [rd0] at hf
 | .tup .., t, u, hf, hr, _ => by simp [rd0] at hf
theorem rd0L_close {C : Ctx} {k2 : Bool} {H : AH} : ∀ (as ts : List AV) (us : List Value), rd0L k2 H as = some ts → RL C ts [] us → (∀ i, C.io i = none) → RL (C.at 1) ts [] us
 | [], ts, us, hf, hr, _ => by rw [rd0L] at hf; cases hf; rw [RL] at *; exact hr
 | a :: as, ts, us, hf, hr, hio => by
   rw [rd0L] at hf
   split at hf
   case h_2 => cases hf
   rename_i x y hx hy
   cases hf
   rw [RL] at *
   obtain ⟨S1, S2, u, us', hSS, rfl, h1, h2⟩ := hr
   obtain ⟨rfl, rfl⟩ : S1 = [] ∧ S2 = [] := by simpa using hSS.symm
   exact ⟨[], [], u, us', rfl, rfl, cH a x u hx h1 hio, rd0L_close as y us' hy h2 hio⟩
end
mutual
theorem R6 (h : Rel g T H io B tmps w) (k2 : Bool) (ks S : List Nat) (forb : Nat → Prop) (hS : ∀ x ∈ S, ∃ k ∈ ks, x ∈ B k) (hk2 : k2 = true → S = []) : ∀ (a t : AV) (u : Value), rd0 k2 (AG ks H) a = some t → R (ctx g H io B w) a [] u → R (cin w S forb) t [] u
 | .v x, t, u, hf, hr => by rw [rd0] at hf; cases hf; rw [R] at *; exact hr
 | .sl c sz es, t, u, hf, hr => by
   rw [rd0] at hf
   split at hf
   case isFalse => cases hf
   rename_i hc
   cases hf
   rw [R] at *
   obtain ⟨_, a, cap, hu, hcap, hr⟩ := hr
   refine ⟨rfl, a, cap, by rw [DY]; exact hu, by rw [DY]; exact hcap, ?_⟩
   rcases hr with rfl | ⟨b, p, us, ha, hb, hbad, hcells, hsz, hrl⟩
   ·left; rfl
   ·have hb1 := fun (_ : Nat) x (hx : ¬ (ctx g H io B w).bad c x) => h.bad1 k2 ks S hS hk2 c hc x hx
    refine .inr ⟨b, p, us, ha, hb, hb1 0 b hbad, hcells, hsz.vw 1, ?_⟩
    rw [MM]
    exact vwL_ok (C' := cin w S forb) 1 _ ((ctx g H io B w).at c) (fun _ => rfl) rfl (fun d x _ hx => by simp only [Ctx.at, Classical.not_imp] at hx; exact hb1 0 x hx.2) _ _ hrl (by simp)
 | .vp c cs o, t, u, hf, hr => by
   rw [rd0] at hf
   split at hf
   case isFalse => cases hf
   rename_i hc
   cases hf
   rw [R] at *
   obtain ⟨_, b, p, us, hu, hb, hbad, hcells, hrl⟩ := hr
   have hb1 := fun x (hx : ¬ (ctx g H io B w).bad c x) => h.bad1 k2 ks S hS hk2 c hc x hx
   exact ⟨rfl, b, p, us, hu, hb, hb1 b hbad, hcells, vwL_ok (C' := cin w S forb) 1 _ ((ctx g H io B w).at c) (fun _ => rfl) rfl (fun d x _ hx => by simp only [Ctx.at, Classical.not_imp] at hx; exact hb1 x hx.2) _ _ hrl (by simp)⟩
 | .os sz [], t, u, hf, hr => by
   rw [rd0] at hf; cases hf
   rw [R] at hr; rw [R]
   obtain ⟨a, cap, hu, hcap, hr⟩ := hr
   rcases hr with ⟨rfl, _⟩ | ⟨_, b, p, us, S', hh, _⟩
   ·exact ⟨rfl, a, 0, hu, hcap, .inl rfl⟩
   ·cases hh
 | .os sz (e :: es), t, u, hf, hr => by simp [rd0] at hf
 | .ls sz id off n, t, u, hf, hr => by
   rw [rd0] at hf
   split at hf
   case h_2 => cases hf
   rename_i sz' es hl
   split at hf
   case isFalse => cases hf
   rename_i hc
   obtain ⟨rfl, hn⟩ := hc
   cases hf
   rw [R] at hr
   obtain ⟨_, hid, a, cap, hu, hcap, hr⟩ := hr
   exact h.rdS k2 ks S forb hS hl hn hu hcap (orB (fun hh => hh.1) (fun hh => hh) hr)
 | .lw sz id off n, t, u, hf, hr => by
   rw [rd0] at hf
   split at hf
   case h_2 => cases hf
   rename_i sz' es hl
   split at hf
   case isFalse => cases hf
   rename_i hc
   obtain ⟨rfl, hn⟩ := hc
   cases hf
   rw [R] at hr
   obtain ⟨_, a, cap, hu, hcap, hr⟩ := hr
   exact h.rdS k2 ks S forb hS hl hn hu hcap hr
 | .lp sz id i o, t, u, hf, hr => by
   rw [rd0] at hf
   split at hf
   case h_2 => cases hf
   rename_i sz' es hl
   split at hf
   case isFalse => cases hf
   rename_i hc; subst hc
   split at hf
   case h_2 => cases hf
   rename_i e he
   cases hf
   obtain ⟨hk, hlive⟩ := Oy _ _ _ _ hl
   rw [R] at hr
   obtain ⟨_, b, p, hi, hu⟩ := hr
   simp only [ctx] at hi
   rcases h.rows id _ hlive with ⟨h0, _, _⟩ | ⟨b', p', us, S', h1, h2, h3, h4, h5, h6, h7⟩
   ·subst h0; simp at he
   ·rw [hi] at h1; cases h1
    obtain ⟨S1, S2, S3, us1, us2, us3, rfl, rfl, e1, e2, _, e3, _⟩ := ML h6 h7 he
    have hc := h5.right.left
    rw [e1] at hc
    have hn : ∀ x ∈ B id, x ∉ S := fun x hx hs => by obtain ⟨k, hk1, hk3⟩ := hS x hs; exact hk (h.dj _ _ _ hk3 hx ▸ hk1)
    rw [h2] at hn
    rw [R]
    exact ⟨rfl, b, p + i * sz', us2, hu, h3, hn b (by simp), hc, vwL_ok (C' := cin w S forb) 1 _ ((ctx g H io B w).at 0) (fun _ => rfl) rfl
     (fun d x _ hx => by simp only [Ctx.at, Classical.not_imp] at hx; exact h.bad1 k2 ks S hS hk2 0 (.inl (by omega)) x hx.2) _ _ e3 (fun x hx => hn x (by simp [hx]))⟩
 | .agg cs, t, u, hf, hr => by
   rw [rd0] at hf
   cases hx : rd0L k2 (AG ks H) cs with
   | none => rw [hx] at hf; cases hf
   | some y =>
     rw [hx] at hf; cases hf
     rw [R] at *
     obtain ⟨us, hu, hrl⟩ := hr
     exact ⟨us, hu, rd0L_ok h k2 ks S forb hS hk2 cs y us hx hrl⟩
 | .fn f cs, t, u, hf, hr => by
   rw [rd0] at hf
   cases hx : rd0L k2 (AG ks H) cs with
   | none => rw [hx] at hf; cases hf
   | some y =>
     rw [hx] at hf; cases hf
     rw [R] at *
     obtain ⟨us, hu, hrl⟩ := hr
     exact ⟨us, hu, rd0L_ok h k2 ks S forb hS hk2 cs y us hx hrl⟩
 | .bot, t, u, hf, hr => by simp [rd0] at hf
 | .op .., t, u, hf, hr => by simp [rd0] at hf
 | .tup .., t, u, hf, hr => by simp [rd0] at hf
theorem rd0L_ok (h : Rel g T H io B tmps w) (k2 : Bool) (ks S : List Nat) (forb : Nat → Prop) (hS : ∀ x ∈ S, ∃ k ∈ ks, x ∈ B k) (hk2 : k2 = true → S = []) : ∀ (as ts : List AV) (us : List Value), rd0L k2 (AG ks H) as = some ts → RL (ctx g H io B w) as [] us → RL (cin w S forb) ts [] us
 | [], ts, us, hf, hr => by rw [rd0L] at hf; cases hf; rw [RL] at *; exact hr
 | a :: as, ts, us, hf, hr => by
   rw [rd0L] at hf
   split at hf
   case h_2 => cases hf
   rename_i x y hx hy
   cases hf
   rw [RL] at *
   obtain ⟨S1, S2, u, us', hSS, rfl, h1, h2⟩ := hr
   obtain ⟨rfl, rfl⟩ : S1 = [] ∧ S2 = [] := by simpa using hSS.symm
   exact ⟨[], [], u, us', rfl, rfl, R6 h k2 ks S forb hS hk2 a x u hx h1, rd0L_ok h k2 ks S forb hS hk2 as y us' hy h2⟩
end
mutual
theorem ku (h : Rel g T H io B tmps w) (k2 : Bool) (ks S : List Nat) (forb : Nat → Prop) (hS : ∀ x ∈ S, ∃ k ∈ ks, x ∈ B k) (hk2 : k2 = true → S = []) : ∀ (a t : AV) (u : Value), rd k2 (AG ks H) a = some t → R (ctx g H io B w) a [] u → R (cin w S forb) t [] u
 | .lp sz id i o, t, u, hf, hr => by
   rw [rd] at hf
   split at hf
   ·rename_i cs hl
    split at hf
    case isFalse => cases hf
    rename_i hi0; subst hi0
    cases hx : rd0L k2 (AG ks H) cs with
    | none => rw [hx] at hf; cases hf
    | some y =>
      rw [hx] at hf; cases hf
      obtain ⟨hk, hlive⟩ := Oy _ _ _ _ hl
      rw [R] at hr
      obtain ⟨_, b, p, hi, hu⟩ := hr
      simp only [ctx] at hi
      obtain ⟨b', p', us, h1, h2, h3, h4, h5, h6⟩ := h.rows id _ hlive
      rw [hi] at h1; cases h1
      have hn : ∀ x ∈ B id, x ∉ S := fun x hx hs => by obtain ⟨k, hk1, hk3⟩ := hS x hs; exact hk (h.dj _ _ _ hk3 hx ▸ hk1)
      rw [h2] at hn
      rw [R]
      refine ⟨rfl, b, p, us, by simpa using hu, h3, hn b (by simp), h5, ?_⟩
      exact rd0L_close cs y us hx (rd0L_ok h k2 ks S forb hS hk2 cs y us hx h6) (fun _ => rfl)
   ·exact R6 h k2 ks S forb hS hk2 _ _ _ hf hr
 | .agg cs, t, u, hf, hr => by
   rw [rd] at hf
   cases hx : rdL k2 (AG ks H) cs with
   | none => rw [hx] at hf; cases hf
   | some y =>
     rw [hx] at hf; cases hf
     rw [R] at *
     obtain ⟨us, hu, hrl⟩ := hr
     exact ⟨us, hu, rdL_ok h k2 ks S forb hS hk2 cs y us hx hrl⟩
 | .fn f cs, t, u, hf, hr => by
   rw [rd] at hf
   cases hx : rdL k2 (AG ks H) cs with
   | none => rw [hx] at hf; cases hf
   | some y =>
     rw [hx] at hf; cases hf
     rw [R] at *
     obtain ⟨us, hu, hrl⟩ := hr
     exact ⟨us, hu, rdL_ok h k2 ks S forb hS hk2 cs y us hx hrl⟩
 | .v x, t, u, hf, hr => R6 h k2 ks S forb hS hk2 _ _ _ (by simpa [rd] using hf) hr
 | .sl .., t, u, hf, hr => R6 h k2 ks S forb hS hk2 _ _ _ (by simpa [rd] using hf) hr
 | .vp .., t, u, hf, hr => R6 h k2 ks S forb hS hk2 _ _ _ (by simpa [rd] using hf) hr
 | .os .., t, u, hf, hr => R6 h k2 ks S forb hS hk2 _ _ _ (by simpa [rd] using hf) hr
 | .ls .., t, u, hf, hr => R6 h k2 ks S forb hS hk2 _ _ _ (by simpa [rd] using hf) hr
 | .lw .., t, u, hf, hr => R6 h k2 ks S forb hS hk2 _ _ _ (by simpa [rd] using hf) hr
 | .bot, t, u, hf, hr => by simp [rd, rd0] at hf
 | .op .., t, u, hf, hr => by simp [rd, rd0] at hf
 | .tup .., t, u, hf, hr => by simp [rd, rd0] at hf
theorem rdL_ok (h : Rel g T H io B tmps w) (k2 : Bool) (ks S : List Nat) (forb : Nat → Prop) (hS : ∀ x ∈ S, ∃ k ∈ ks, x ∈ B k) (hk2 : k2 = true → S = []) : ∀ (as ts : List AV) (us : List Value), rdL k2 (AG ks H) as = some ts → RL (ctx g H io B w) as [] us → RL (cin w S forb) ts [] us
 | [], ts, us, hf, hr => by rw [rdL] at hf; cases hf; rw [RL] at *; exact hr
 | a :: as, ts, us, hf, hr => by
   rw [rdL] at hf
   split at hf
   case h_2 => cases hf
   rename_i x y hx hy
   cases hf
   rw [RL] at *
   obtain ⟨S1, S2, u, us', hSS, rfl, h1, h2⟩ := hr
   obtain ⟨rfl, rfl⟩ : S1 = [] ∧ S2 = [] := by simpa using hSS.symm
   exact ⟨[], [], u, us', rfl, rfl, ku h k2 ks S forb hS hk2 a x u hx h1, rdL_ok h k2 ks S forb hS hk2 as y us' hy h2⟩
end
end
def WW (H : AH) : List AV → List Bool → Option (List Nat)
 | [], [] => some []
 | a :: as, true :: ms => match fo H a, WW H as ms with
   | some x, some y => some (x.2 ++ y)
   | _, _ => none
 | _ :: as, false :: ms => WW H as ms
 | _, _ => none
def MO (H Hk : AH) (k2 : Bool) : List AV → List Bool → Option (List AV)
 | [], [] => some []
 | a :: as, true :: ms => match fo H a, MO H Hk k2 as ms with
   | some x, some y => some (x.1 :: y)
   | _, _ => none
 | a :: as, false :: ms => match rd k2 Hk a, MO H Hk k2 as ms with
   | some x, some y => some (x :: y)
   | _, _ => none
 | _, _ => none
def iX : AV → Bool
 | .bot => true
 | _ => false
def RF : List AV → List Bool → List AV → Nat → Option (List (Nat × Row) × Nat)
 | [], [], [], k => some ([], k)
 | a :: as, true :: ms, t :: ts, k => match rv a t k with
   | some p => match RF as ms ts p.2 with
     | some q => some (p.1 ++ q.1, q.2)
     | none => none
   | none => none
 | _ :: as, false :: ms, t :: ts, k => if iX t then RF as ms ts k else none
 | _, _, _, _ => none
section
variable {g : Env} {T : List AV} {H : AH} {io : Nat → Option (Nat × Nat)} {B : Nat → List Nat} {tmps : Array Value} {w : World}
theorem Rel.own_step (h : Rel g T H io B tmps w) {S : List Nat} (hS : ∀ x ∈ S, ∃ k, x ∈ B k) : Step ((ctx g H io B w).at 0) (cin w S fun x => (∃ id, x ∈ B id) ∨ g.forb x) := by
 refine ⟨Nat.le_refl _, ?_, fun _ _ hx => by simp [Ctx.at] at hx, Nat.le_refl _, fun _ _ => rfl, fun _ _ _ hr => hr⟩
 intro c b _ hbad
 simp only [Ctx.at, Classical.not_imp] at hbad
 obtain ⟨rfl, hbad⟩ := hbad
 refine ⟨?_, rfl⟩
 show ¬ (b ∈ S ∨ _)
 rintro (h1 | h1)
 ·exact hbad (.inl (hS b h1))
 ·exact hbad h1
theorem Rel.args_ok (h : Rel g T H io B tmps w) (k2 : Bool) (K : List Nat) : ∀ (as : List AV) (ms : List Bool) (us : List Value) (ks : List Nat) (ts : List AV),
  WW H as ms = some ks → MO H (AG K H) k2 as ms = some ts → RL (ctx g H io B w) as [] us →
  ∃ S, List.Sublist S (ks.flatMap B) ∧ (∀ i ∈ ks, ∃ r, Live H i r) ∧ ∀ S0 : List Nat, (∀ x ∈ S0, ∃ k ∈ K, x ∈ B k) → (k2 = true → S0 = []) → RL (cin w S0 fun x => (∃ id, x ∈ B id) ∨ g.forb x) ts S us
 | [], [], us, ks, ts, ho, ht, hr => by
   simp only [WW] at ho; simp only [MO] at ht; cases ho; cases ht
   refine ⟨[], by simp, by simp, fun S0 _ _ => ?_⟩
   rw [RL] at *; exact hr
 | a :: as, true :: ms, us, ks, ts, ho, ht, hr => by
   simp only [WW] at ho; simp only [MO] at ht
   split at ho
   case h_2 => cases ho
   rename_i x y hx hy
   rw [hx] at ht
   cases ho
   split at ht
   case h_2 => cases ht
   rename_i x' z hx' hz
   cases hx'; cases ht
   rw [RL] at hr
   obtain ⟨S1, S2, u, us', hSS, rfl, h1, h2⟩ := hr
   obtain ⟨rfl, rfl⟩ : S1 = [] ∧ S2 = [] := by simpa using hSS.symm
   obtain ⟨S3, h3, h4, h5⟩ := iW h a x.1 x.2 u hx h1
   obtain ⟨S4, h6, h7, h8⟩ := Rel.args_ok h k2 K as ms us' y z hy hz h2
   refine ⟨S3 ++ S4, by rw [List.flatMap_append]; exact h4.append h6, ?_, fun S0 hS0 hk => ?_⟩
   ·intro i hi
    rcases List.mem_append.1 hi with hi | hi
    ·exact h5 i hi
    ·exact h7 i hi
   ·rw [RL]
    exact ⟨S3, S4, u, us', rfl, rfl, R.step (h.own_step fun x hx => by obtain ⟨k, _, hk⟩ := hS0 x hx; exact ⟨k, hk⟩) _ _ _ (fun _ _ => rfl) h3, h8 S0 hS0 hk⟩
 | a :: as, false :: ms, us, ks, ts, ho, ht, hr => by
   simp only [WW] at ho; simp only [MO] at ht
   split at ht
   case h_2 => cases ht
   rename_i x z hx hz
   cases ht
   rw [RL] at hr
   obtain ⟨S1, S2, u, us', hSS, rfl, h1, h2⟩ := hr
   obtain ⟨rfl, rfl⟩ : S1 = [] ∧ S2 = [] := by simpa using hSS.symm
   obtain ⟨S4, h6, h7, h8⟩ := Rel.args_ok h k2 K as ms us' ks z ho hz h2
   refine ⟨S4, h6, h7, fun S0 hS0 hk => ?_⟩
   rw [RL]
   exact ⟨[], S4, u, us', rfl, rfl, ku h k2 K S0 _ hS0 hk a x u hx h1, h8 S0 hS0 hk⟩
 | [], _ :: _, us, ks, ts, ho, ht, hr => by simp [WW] at ho
 | _ :: _, [], us, ks, ts, ho, ht, hr => by simp [WW] at ho
theorem Rel.back_ok (h : Rel g T H io B tmps w) {Cp : Ctx} (hc : Closed Cp) : ∀ (as : List AV) (ms : List Bool) (ts : List AV) (us : List Value) (ks : List Nat) (k : Nat) (ps : List (Nat × Row)) (k' : Nat) (S : List Nat),
  WW H as ms = some ks → RL (ctx g H io B w) as [] us → RL Cp ts S us → H.length ≤ k → ks.Nodup →
  RF as ms ts k = some (ps, k') → ∃ qs, Back H.length io qs ps S ks k k' ∧ ∀ C, Laid Cp C qs k' → ∀ q ∈ qs, bi C q.row q.bs q.pl
 | [], [], [], us, ks, k, ps, k', S, ho, hx, ht, hk, hnd, hb => by
   simp only [WW] at ho; simp only [RF] at hb; cases ho; cases hb
   rw [RL] at ht
   obtain ⟨rfl, _⟩ := ht
   exact ⟨[], Back.nil _ _ _, by simp⟩
 | a :: as, true :: ms, t :: ts, us, ks, k, ps, k', S, ho, hx, ht, hk, hnd, hb => by
   simp only [WW] at ho; simp only [RF] at hb
   split at ho
   case h_2 => cases ho
   rename_i x y hx1 hy1
   cases ho
   split at hb
   case h_2 => cases hb
   rename_i p hp
   split at hb
   case h_2 => cases hb
   rename_i q hq
   cases hb
   rw [RL] at hx ht
   obtain ⟨S1, S2, u, us1, hS, rfl, h1, h2⟩ := hx
   obtain ⟨rfl, rfl⟩ : S1 = [] ∧ S2 = [] := by simpa using hS.symm
   obtain ⟨S3, S4, u', us2, rfl, hu, h3, h4⟩ := ht
   simp only [List.cons.injEq] at hu
   obtain ⟨rfl, rfl⟩ := hu
   rw [List.nodup_append] at hnd
   obtain ⟨qs1, b1, r1⟩ := kt h hc a x.1 t x.2 k p.1 p.2 S3 u hx1 h1 h3 hk hnd.1 hp
   obtain ⟨qs2, b2, r2⟩ := Rel.back_ok h hc as ms ts us1 y p.2 q.1 q.2 S4 hy1 h2 h4 (Nat.le_trans hk b1.le) hnd.2.1 hq
   refine ⟨qs1 ++ qs2, b1.append b2 hk (fun i hi hi2 => hnd.2.2 i hi i hi2 rfl), ?_⟩
   intro C hC y hy
   rcases List.mem_append.1 hy with hy | hy
   ·exact r1 C (hC.left b2.le) y hy
   ·exact r2 C hC.right y hy
 | a :: as, false :: ms, t :: ts, us, ks, k, ps, k', S, ho, hx, ht, hk, hnd, hb => by
   simp only [WW] at ho; simp only [RF] at hb
   split at hb
   case isFalse => cases hb
   rename_i hbot
   have : t = .bot := by cases t <;> simp [iX] at hbot; rfl
   subst this
   rw [RL] at hx ht
   obtain ⟨S1, S2, u, us1, hS, rfl, h1, h2⟩ := hx
   obtain ⟨rfl, rfl⟩ : S1 = [] ∧ S2 = [] := by simpa using hS.symm
   obtain ⟨S3, S4, u', us2, rfl, hu, h3, h4⟩ := ht
   simp only [List.cons.injEq] at hu
   obtain ⟨rfl, rfl⟩ := hu
   rw [R] at h3
   subst h3
   exact Rel.back_ok h hc as ms ts us1 ks k ps k' S4 ho h2 h4 hk hnd hb
 | [], _ :: _, _, us, ks, k, ps, k', S, ho, hx, ht, hk, hnd, hb => by simp [WW] at ho
 | _ :: _, [], _, us, ks, k, ps, k', S, ho, hx, ht, hk, hnd, hb => by simp [WW] at ho
 | [], [], _ :: _, us, ks, k, ps, k', S, ho, hx, ht, hk, hnd, hb => by simp [RF] at hb
 | _ :: _, true :: _, [], us, ks, k, ps, k', S, ho, hx, ht, hk, hnd, hb => by simp [RF] at hb
 | _ :: _, false :: _, [], us, ks, k, ps, k', S, ho, hx, ht, hk, hnd, hb => by simp [RF] at hb
structure CallPre (H : AH) (avs : List AV) (ms : List Bool) (ks : List Nat) (ts : List AV) : Prop where
 own : WW H avs ms = some ks
 nd : ks.Nodup
 trees : MO H (AG ks H) ks.isEmpty avs ms = some ts
theorem iY (h : Rel g T H io B tmps w) (hg : ∀ x, g.forb x → x < g.w0.heap.size) {avs : List AV} {ms : List Bool} {us : List Value} (hr : RL (ctx g H io B w) avs [] us) {ks : List Nat} {ts : List AV}
  (hks : WW H avs ms = some ks) (hnd : ks.Nodup) (hts : MO H (AG ks H) ks.isEmpty avs ms = some ts) {P : Program} {f : Nat} {post : AV → List AV → Prop} (hf : SoundSet P f ts post)
  {C : AV → List (Nat × Row) → Nat → Prop} (hbC : ∀ r ups, post r ups → ∃ ps k', RF avs ms ups (Hu r H.length).2.2 = some (ps, k') ∧ C r ps k') :
  Calls P f us.toArray w fun e w' => ∃ r ps k' v io' B', C r ps k' ∧ e = .returned v ∧
   Rel g (if ks.isEmpty then T else purgeL T) (B8 ((Hu r H.length).2.1 ++ ps) (SN (k' - H.length) (AG ks (if ks.isEmpty then H else BE H)))) io' B' tmps w' ∧
   R (ctx g (B8 ((Hu r H.length).2.1 ++ ps) (SN (k' - H.length) (AG ks (if ks.isEmpty then H else BE H)))) io' B' w') (Hu r H.length).1 [] v := by
 obtain ⟨S, hsub, hlive, hrl⟩ := h.args_ok ks.isEmpty ks avs ms us ks ts hks hts hr
 have hS : ∀ x ∈ S, ∃ k ∈ ks, x ∈ B k := fun x hx => FE hsub hx
 have hpg : ks.isEmpty = true → S = [] := by
  intro he
  have : ks = [] := by simpa using he
  subst this
  simpa using hsub
 have hin := hrl S hS hpg
 refine Calls.mono (hf w _ us S hin (hsub.nodup (h.flat_nodup hnd)) (fun x hx => by obtain ⟨k, _, hk⟩ := hS x hx; exact h.lt k x hk) ?_) ?_
 ·refine ⟨?_, h.gbAt fun x hx => ?_⟩
  ·rintro x (⟨id, hx⟩ | hx)
   ·exact h.lt id x hx
   ·exact Nat.lt_of_lt_of_le (hg x hx) h.kept.size
  ·rcases hx with hx | hx
   ·obtain ⟨k, _, hk⟩ := hS x hx
    exact .inl ⟨k, hk⟩
   ·exact hx
 rintro e w' ⟨r, ups, hpost, v, S', rfl, hout, hnd', hmem, hkept⟩
 obtain ⟨ps, k', hb, hCr⟩ := hbC r ups hpost
 rw [RL] at hout
 obtain ⟨S1, S2, v', us', rfl, hvu, h1, h2⟩ := hout
 simp only [List.cons.injEq] at hvu
 obtain ⟨rfl, rfl⟩ := hvu
 have hcl : Closed (Xt w' (S1 ++ S2) fun x => (∃ id, x ∈ B id) ∨ g.forb x) := by
  exact ⟨fun _ => rfl, rfl⟩
 obtain ⟨qs1, g1, l1⟩ := cG r _ H.length S1 v hcl h1
 obtain ⟨qs2, g2, l2⟩ := h.back_ok hcl avs ms ups us ks _ ps k' S2 hks hr h2 g1.le hnd hb
 have hle : H.length ≤ k' := Nat.le_trans g1.le g2.le
 have hids : ((qs1 ++ qs2).map (·.id)).Nodup := by
  rw [List.map_append, List.nodup_append]
  refine ⟨g1.ids, g2.ids, ?_⟩
  intro a ha b hb2 e
  obtain ⟨q, hq, rfl⟩ := List.mem_map.1 ha
  obtain ⟨q', hq', rfl⟩ := List.mem_map.1 hb2
  have := g1.range q hq
  rcases g2.range q' hq' with ⟨_, r1, _⟩ | r1 <;> omega
 have hbs : (qs1 ++ qs2).flatMap (·.bs) = S1 ++ S2 := by rw [List.flatMap_append, g1.bs, g2.bs]
 have hinS : ∀ x, (∃ q ∈ qs1 ++ qs2, x ∈ q.bs) ↔ x ∈ S1 ++ S2 := by intro x; rw [← hbs, List.mem_flatMap]
 have hps : prs (qs1 ++ qs2) = (Hu r H.length).2.1 ++ ps := by rw [← g1.ps, ← g2.ps]; simp [prs]
 have hset := h.settle (!ks.isEmpty) ks S hS (by intro hp; exact hpg (by simpa using hp)) w' hkept (qs1 ++ qs2) (k' - H.length) hids ?_ (by rw [hbs]; exact hnd') ?_ ?_ ?_
 ·simp only [hps] at hset
  have e1 : (if (!ks.isEmpty) = true then BE H else H) = if ks.isEmpty = true then H else BE H := by cases ks.isEmpty <;> rfl
  have e2 : (if (!ks.isEmpty) = true then purgeL T else T) = if ks.isEmpty = true then T else purgeL T := by cases ks.isEmpty <;> rfl
  rw [e1, e2] at hset
  obtain ⟨s1, s2, s3, s4⟩ := hset
  refine ⟨r, ps, k', v, _, _, hCr, rfl, s1, ?_⟩
  refine (l1 (ctx g _ (ioQ (qs1 ++ qs2) io) (bQ (qs1 ++ qs2) ks B) w') ⟨rfl, ?_, fun q hq => s3 q (by simp [hq]), ?_⟩).1
  ·intro c x hx
   cases c
   case succ => exact absurd trivial hx
   have hx' : ¬ (x ∈ S1 ++ S2 ∨ (∃ id, x ∈ B id) ∨ g.forb x) := hx
   rw [not_or] at hx'
   exact s4 x (by rw [hinS]; exact hx'.1) hx'.2
  ·rw [s2]; have := g2.le; omega
 ·intro q hq
  rcases List.mem_append.1 hq with hq | hq
  ·have := g1.range q hq; have := g2.le; right; omega
  ·rcases g2.range q hq with r1 | r1
   ·exact .inl r1
   ·have := g1.le; right; omega
 ·intro q hq x hx
  exact hmem x ((hinS x).1 ⟨q, hq, hx⟩)
 ·intro q hq
  rcases List.mem_append.1 hq with hq | hq
  ·exact g1.head q hq
  ·exact g2.head q hq
 ·intro C' hw hbad hio hn q hq
  have hbad' : ∀ c x, ¬ (Xt w' (S1 ++ S2) fun x => (∃ id, x ∈ B id) ∨ g.forb x).bad c x → ¬ C'.bad c x := by
   intro c x hx
   cases c
   case succ => exact absurd trivial hx
   have hx' : ¬ (x ∈ S1 ++ S2 ∨ (∃ id, x ∈ B id) ∨ g.forb x) := hx
   rw [not_or] at hx'
   exact hbad x (by rw [hinS]; exact hx'.1) hx'.2
  rcases List.mem_append.1 hq with hq | hq
  ·exact (l1 C' ⟨hw, hbad', fun q hq => hio q (by simp [hq]), by have := g2.le; omega⟩).2 q hq
  ·exact l2 C' ⟨hw, hbad', fun q hq => hio q (by simp [hq]), by omega⟩ q hq
end
def iZ (H : AH) : AV → Option (Nat × Nat × Nat × List AV)
 | .ls 1 id off n => match H[id]? with
   | some (some (.arr 1 es)) => if off + n ≤ es.length then some (id, off, n, es) else none
   | _ => none
 | .lw 1 id off n => match H[id]? with
   | some (some (.arr 1 es)) => if off + n ≤ es.length then some (id, off, n, es) else none
   | _ => none
 | _ => none
def ia (H : AH) (d s : AV) : Option (AV × AH) := match iZ H d, U3 H 1 s with
 | some (id, off, n, es), some (xs, _, _) => if KM xs = true then some (.v (.int .i64 (min n xs.length : Nat)), H.set id (some (.arr 1 (es.take off ++ xs.take (min n xs.length) ++ es.drop (off + min n xs.length))))) else none
 | _, _ => none
section
variable {P : Program} {g : Env} {T : List AV} {H : AH} {io : Nat → Option (Nat × Nat)} {B : Nat → List Nat} {tmps : Array Value} {w : World}
theorem cI {tS tX ty e : TypeId} {i : TypeInfo} (ht : P.underlying tS = some (.slice e)) (hi : P.info? e = some i) (h1 : i.size = 1) {b q n cap : Nat} {u : Value} {m : Nat} (hlen : ∀ w : World, (Builtin.lenOf u).run P w = .ok m w)
  {us : List Value} (hf : (Builtin.firstCells 1 (min n m) u).run P w = .ok us.toArray w) {w' : World} (hst : (storeCells ⟨b, q, none⟩ us).run P w = .ok () w') :
  (Builtin.copy_ #[tS, tX] ty #[.slice (some ⟨b, q, none⟩) n cap, u]).run P w = .ok (goInt (min n m : Nat)) w' := by
 have e1 : Nat.min m n = min n m := Nat.min_comm m n
 simp [Builtin.copy_, run_underlying ht, sizeOf, typeInfo, hi, h1, hlen w, e1, hf, hst]
theorem cJ {tS tX ty e : TypeId} {i : TypeInfo} (ht : P.underlying tS = some (.slice e)) (hi : P.info? e = some i) {a a2 : Option Addr} {n cap m cap2 : Nat} (h0 : min n m = 0) :
  (Builtin.copy_ #[tS, tX] ty #[.slice a n cap, .slice a2 m cap2]).run P w = .ok (goInt 0) w := by
 have e1 : Nat.min m n = 0 := by rw [show Nat.min m n = min n m from Nat.min_comm m n]; exact h0
 have hf := D3 (P := P) (w := w) a2 m cap2 i.size
 cases a <;> simp [Builtin.copy_, Builtin.lenOf, run_underlying ht, sizeOf, typeInfo, hi, e1, hf, storeCells]
theorem kv (h : Rel g T H io B tmps w) {x : AV} {u : Value} {id off n : Nat} {es : List AV} (hx : R (ctx g H io B w) x [] u) (hs : iZ H x = some (id, off, n, es)) :
  H[id]? = some (some (.arr 1 es)) ∧ off + n ≤ es.length ∧ ∃ a cap, u = .slice a n cap ∧ (n = 0 ∨ ∃ b p, io id = some (b, p) ∧ a = some ⟨b, p + off, none⟩) := by
 unfold iZ at hs
 split at hs
 ·rename_i id' off' n'
  split at hs
  case h_2 => cases hs
  rename_i es' hl
  split at hs
  case isFalse => cases hs
  rename_i hn
  cases hs
  rw [R] at hx
  obtain ⟨_, _, a, cap, rfl, hcap, hr⟩ := hx
  refine ⟨hl, hn, a, cap, rfl, ?_⟩
  rcases hr with ⟨rfl, _⟩ | ⟨_, b, p, hi, rfl, _⟩
  ·left; omega
  ·right; exact ⟨b, p, hi, by simp⟩
 ·rename_i id' off' n'
  split at hs
  case h_2 => cases hs
  rename_i es' hl
  split at hs
  case isFalse => cases hs
  rename_i hn
  cases hs
  rw [R] at hx
  obtain ⟨_, a, cap, rfl, hcap, hr⟩ := hx
  refine ⟨hl, hn, a, cap, rfl, ?_⟩
  rcases hr with rfl | ⟨_, b, p, hi, rfl, _⟩
  ·left; omega
  ·right; exact ⟨b, p, hi, by simp⟩
 ·cases hs
theorem V1 : ∀ (xs : List AV) (k : Nat), KM xs = true → KM (xs.take k) = true
 | [], k, _ => by simp [KM]
 | x :: xs, 0, _ => by simp [KM]
 | x :: xs, k + 1, h => by
   simp only [KM, Bool.and_eq_true, List.take_succ_cons] at h ⊢
   exact ⟨h.1, V1 xs k h.2⟩
theorem ib (h : Rel g T H io B tmps w) {tS tX ty e : TypeId} {i : TypeInfo} (ht : P.underlying tS = some (.slice e)) (hi : P.info? e = some i) (h1 : i.size = 1) {d s : AV} {ud us : Value} {av : AV} {H' : AH}
  (hd : R (ctx g H io B w) d [] ud) (hs : R (ctx g H io B w) s [] us) (hop : ia H d s = some (av, H')) :
  ∃ v w' io' B', (Builtin.copy_ #[tS, tX] ty #[ud, us]).run P w = .ok v w' ∧ Rel g T H' io' B' tmps w' ∧ R (ctx g H' io' B' w') av [] v := by
 unfold ia at hop
 split at hop
 case h_2 => cases hop
 rename_i id off n es xs ks c hdst hsrc
 split at hop
 case isFalse => cases hop
 rename_i hflat
 cases hop
 obtain ⟨hl, hle, a, cap, rfl, ha⟩ := kv h hd hdst
 obtain ⟨vs, S, a2, cap2, rfl, hcap2, hsz, hrl, _, hf, hsrc2⟩ := Zq h hs hsrc
 have hidlt : id < H.length := Live.lt (r := .arr 1 es) hl
 by_cases h0 : min n xs.length = 0
 ·refine ⟨_, w, io, B, cJ ht hi h0, ?_, ?_⟩
  ·rw [h0]
   have e2 : es.take off ++ xs.take 0 ++ es.drop (off + 0) = es := by simp
   rw [e2]
   have e3 : H.set id (some (.arr 1 es)) = H := by
    apply List.ext_getElem?
    intro j
    rw [List.getElem?_set]
    by_cases hj : id = j
    ·subst hj; rw [if_pos rfl, if_pos hidlt, hl]
    ·rw [if_neg hj]
   rw [e3]; exact h
  ·rw [h0, R]; exact ⟨rfl, rfl⟩
 have hk0 : 0 < min n xs.length := Nat.pos_of_ne_zero h0
 have hkn : min n xs.length ≤ n := Nat.min_le_left _ _
 have hkx : min n xs.length ≤ xs.length := Nat.min_le_right _ _
 generalize hk : min n xs.length = k at *
 obtain ⟨b, p, hio, rfl⟩ : ∃ b p, io id = some (b, p) ∧ a = some ⟨b, p + off, none⟩ := by
  rcases ha with rfl | ha
  ·omega
  ·exact ha
 rcases h.rows id _ hl with ⟨h9, _, _⟩ | ⟨b', p', ws, S', g1, g2, g3, g4, g5, g6, g7⟩
 ·subst h9; simp at hle; omega
 rw [hio] at g1; cases g1
 obtain ⟨T1, T2, T3, vs1, vs2, vs3, hT, hvs, t1, t2, t3⟩ := Hs 0 k hsz hrl (by omega)
 have hv1 : vs1 = [] := List.length_eq_zero_iff.1 (by simpa using t1)
 subst hv1
 simp only [List.drop_zero, Nat.mul_one, List.nil_append] at t2 t3 hvs
 have hfl : KM (xs.take k) = true := V1 xs k hflat
 obtain ⟨hT2, hany, hone⟩ := TB t3 (Ow hfl)
 have hcells : ∃ b2 q2, a2 = some ⟨b2, q2, none⟩ ∧ Cells w b2 q2 vs := by
  rcases hsrc2 with h8 | h8 | h8
  ·omega
  ·rw [h8] at hkx; simp at hkx; omega
  ·exact h8
 obtain ⟨b2, q2, rfl, hc2⟩ := hcells
 rw [hvs] at hc2
 have hfc : (Builtin.firstCells 1 (min n xs.length) (.slice (some ⟨b2, q2, none⟩) xs.length cap2)).run P w = .ok vs2.toArray w := by
  rw [hk]; exact FR hc2.left (by omega)
 have hroom : Ns w b (p + off) k := fun j hj => by
  have := g4 (off + j) (by simp; omega)
  rwa [← Nat.add_assoc] at this
 obtain ⟨w', r1, r2, r3⟩ := FQ (P := P) vs2 w b (p + off) 0 (by simpa [t2] using hroom) hone
 have hrun := cI (P := P) (w := w) (tX := tX) (ty := ty) ht hi h1 (b := b) (q := p + off) (n := n) (cap := cap) (fun w => by simp [Builtin.lenOf]) hfc (by simpa using r1)
 rw [hk] at hrun
 have r2' : Wrote b (p + off) k w w' := by simpa [t2] using r2
 have r3' : Cells w' b (p + off) vs2 := by simpa using r3
 have he : es = es.take off ++ ((es.drop off).take k ++ (es.drop off).drop k) := by rw [List.take_append_drop, List.take_append_drop]
 have g7' := g7
 rw [he, Ba, Ba] at g7'
 obtain ⟨S1, S9, ws1, ws9, rfl, rfl, q1, q9⟩ := g7'.split
 obtain ⟨S2, S3, ws2, ws3, rfl, rfl, q2', q3⟩ := q9.split
 have l1 : ws1.length = off := by rw [q1.length, Bb (g6.sub fun x hx => List.mem_of_mem_take hx)]; simp; omega
 have l2 : ws2.length = k := by rw [q2'.length, Bb (g6.sub fun x hx => List.mem_of_mem_drop (List.mem_of_mem_take hx))]; simp; omega
 have hnd := h.nd id
 rw [g2] at hnd
 have hw := h.write hl hio [] (by simp) w' (.arr 1 (es.take off ++ xs.take k ++ es.drop (off + k))) (b :: (S1 ++ S3)) (by
   have : List.Sublist (b :: (S1 ++ S3)) (b :: (S1 ++ (S2 ++ S3))) := List.Sublist.cons_cons _ ((List.Sublist.refl _).append (List.sublist_append_right _ _))
   exact this.nodup hnd) (by
   intro y hy
   left
   rw [g2]
   rcases List.mem_cons.1 hy with rfl | hy
   ·simp
   ·rcases List.mem_append.1 hy with hy | hy <;> simp [hy]) r2'.size r2'.block r2'.room r2'.os r2'.tape r2'.output (by
   intro C' hCw hCio hst
   have hnew : (es.take off ++ xs.take k ++ es.drop (off + k)).length = es.length := by simp; omega
   have hxsz : Sized 1 (xs.take k) := hsz.sub fun x hx => List.mem_of_mem_take hx
   refine .inr ⟨b, p, ws1 ++ (vs2 ++ ws3), S1 ++ S3, rfl, rfl, by rw [hCw, r2'.size]; exact g3, ?_, ?_, ?_, ?_⟩
   ·rw [hCw, hnew]; exact r2'.room _ _ _ g4
   ·rw [hCw]
    intro j v hj
    rw [List.getElem?_append] at hj
    split at hj
    ·rename_i hj1
     rw [r2'.other (p + j) (.inl (by omega))]
     exact g5 j v (by rw [List.getElem?_append_left hj1]; exact hj)
    ·rename_i hj1
     rw [List.getElem?_append] at hj
     split at hj
     ·rename_i hj2
      have := r3' (j - ws1.length) v hj
      rwa [show p + off + (j - ws1.length) = p + j by omega] at this
     ·rename_i hj2
      rw [r2'.other (p + j) (.inr (by omega))]
      refine g5 j v ?_
      rw [List.getElem?_append_right (by omega), List.getElem?_append_right (by omega)]
      rw [show j - ws1.length - ws2.length = j - ws1.length - vs2.length by omega]; exact hj
   ·intro x hx
    rcases List.mem_append.1 hx with hx | hx
    ·rcases List.mem_append.1 hx with hx | hx
     ·exact g6 x (List.mem_of_mem_take hx)
     ·exact hxsz x hx
    ·exact g6 x (List.mem_of_mem_drop hx)
   ·rw [Ba, Ba, List.append_assoc, ← List.drop_drop]
    have hfr : ∀ y ∈ S1 ++ S3, C'.w.heap[y]? = w.heap[y]? := by
     intro y hy
     rw [hCw]
     refine r2'.block y ?_
     rintro rfl
     have h7 := hnd
     rw [List.nodup_cons] at h7
     exact h7.1 (by
      rcases List.mem_append.1 hy with hy | hy <;> simp [hy])
    have m1 := RL.step (hst.at 0) _ _ _ (fun y hy => hfr y (by simp [hy])) q1
    have m3 := RL.step (hst.at 0) _ _ _ (fun y hy => hfr y (by simp [hy])) q3
    have m2 := hany (C'.at 0)
    have := m1.append (m2.append m3)
    simpa using this)
 obtain ⟨w1, _⟩ := hw
 have eH : (AG [] H).set id (some (Row.arr 1 (es.take off ++ xs.take k ++ es.drop (off + k)))) = H.set id (some (Row.arr 1 (es.take off ++ xs.take k ++ es.drop (off + k)))) := by simp [AG]
 rw [eH] at w1
 exact ⟨_, w', io, _, hrun, w1, by rw [R]; exact ⟨rfl, rfl⟩⟩
def u8L : List AV → Option (List Int)
 | [] => some []
 | .v (.int .u8 n) :: as => (u8L as).map (n :: ·)
 | _ => none
def eu (H : AH) (x : AV) : Option AV := match U3 H 1 x with
 | some (es, _, _) => (u8L es).map fun ns => .v (.string (strOfNums ns))
 | none => none
theorem gK {C : Ctx} : ∀ {es : List AV} {ns : List Int} {S : List Nat} {us : List Value}, u8L es = some ns → RL C (Ak es) S us → us = ns.map (Value.int .u8)
 | [], ns, S, us, h, hr => by
   simp only [u8L, Option.some.injEq] at h; subst h
   have hr' : RL C [] S us := hr
   rw [RL] at hr'
   exact hr'.2
 | a :: es, ns, S, us, h, hr => by
   unfold u8L at h
   split at h
   ·rename_i e; cases e
   ·rename_i n as e
    simp only [List.cons.injEq] at e
    obtain ⟨rfl, rfl⟩ := e
    simp only [Option.map_eq_some_iff] at h
    obtain ⟨ms, hm, rfl⟩ := h
    have hr' : RL C (.v (.int .u8 n) :: Ak es) S us := hr
    rw [RL] at hr'
    obtain ⟨S1, S2, u, us', rfl, rfl, h1, h2⟩ := hr'
    rw [R] at h1
    rw [h1.2, gK hm h2]
    rfl
   ·cases h
theorem V2 : ∀ {es : List AV} {ns : List Int}, u8L es = some ns → ns.length = es.length
 | [], ns, h => by simp only [u8L, Option.some.injEq] at h; subst h; rfl
 | a :: es, ns, h => by
   unfold u8L at h
   split at h
   ·rename_i e; cases e
   ·rename_i n as e
    simp only [List.cons.injEq] at e
    obtain ⟨rfl, rfl⟩ := e
    simp only [Option.map_eq_some_iff] at h
    obtain ⟨ms, hm, rfl⟩ := h
    simp [V2 hm]
   ·cases h
theorem kw (h : Rel g T H io B tmps w) {src dst e : TypeId} (hs : P.underlying src = some (.slice e)) (he : P.underlying e = some (.int .u8)) (hd : P.underlying dst = some .string) {x av : AV} {u : Value}
  (hx : R (ctx g H io B w) x [] u) (hop : eu H x = some av) : ∃ v, (convert src dst u).run P w = .ok v w ∧ R (ctx g H io B w) av [] v := by
 unfold eu at hop
 split at hop
 case h_2 => cases hop
 rename_i es ks c hsrc
 simp only [Option.map_eq_some_iff] at hop
 obtain ⟨ns, hns, rfl⟩ := hop
 obtain ⟨us, S, a, cap, rfl, hcap, hsz, hrl, _, _, hcell⟩ := Zq h hx hsrc
 have hus := gK hns hrl
 have hl := V2 hns
 refine ⟨.string (strOfNums ns), ?_, by rw [R]; exact ⟨rfl, rfl⟩⟩
 by_cases h0 : es = []
 ·subst h0
  have hn0 : ns = [] := List.eq_nil_of_length_eq_zero (by simpa using hl)
  subst hn0
  rw [run_convert_bytes_string w src dst e _ _ _ hs he hd]
  cases a with
  | none => simp [Conv.bytesToString, strOfNums]; rfl
  | some a => simp [Conv.bytesToString, loadCells, loadCellsFrom, strOfNums]; rfl
 ·rcases hcell with h1 | h1 | ⟨b, q, rfl, hc⟩
  ·have : es.length = 0 := by omega
   exact absurd (List.eq_nil_of_length_eq_zero this) h0
  ·exact absurd h1 h0
  ·refine run_convert_bytes_arg w src e hs he b q es.length cap ns hl (fun i hi => ?_) dst hd
   subst hus
   have hi' : i < ns.length := by omega
   have := hc i (.int .u8 ns[i]) (by simp [hi'])
   rw [this]
   simp [List.getD, hi']
end
inductive AK where
 | mv | pick
 | alloc (zs : List AV)
 | box
 | build (cs0 : List AV) (places : List (Nat × Nat))
 | bsl (sz : Nat)
 | load (ag : Bool) (k : Nat)
 | store (k : Nat)
 | nilck
 | bin (op : BinOp) (kd : Nat)
 | un (op : UnOp)
 | conv (k : IntKind)
 | str
 | mkfn (f : Nat)
 | mksl (sz bytes : Nat) (ze : AV)
 | slice (sz : Nat) (z lo hi mx : Bool)
 | sslice (lo hi : Bool)
 | fadr (off : Nat)
 | iadr (sz : Nat)
 | fld (ag : Bool) (k off : Nat)
 | idx (ag : Bool) (k len : Nat)
 | sidx
 | extr (i : Nat)
 | len (str : Bool)
 | app (sz bytes : Nat) (flat : Bool)
 | mnx (mn : Bool)
 | call (f : Nat) (ms : List Bool)
 | callv (ms : List Bool)
 | nilq (ng : Bool)
 | copy
 deriving Inhabited
def gL : List (Nat × Nat) → List AV → Option (List (Nat × Nat × AV))
 | [], [] => some []
 | p :: ps, x :: xs => (gL ps xs).map ((p.1, p.2, x) :: ·)
 | _, _ => none
def bj : AV → Option AV
 | .vp c cs o => some (.vp c cs o)
 | .lp sz id i o => some (.lp sz id i o)
 | .op cs => some (.op cs)
 | .fn f cs => some (.fn f cs)
 | _ => none
def cK : List Bool → List AV → Option (List (Option AV))
 | [], [] => some []
 | true :: bs, x :: xs => (cK bs xs).map (some x :: ·)
 | false :: bs, xs => (cK bs xs).map (none :: ·)
 | _, _ => none
def isV : AV → Bool
 | .v _ => true
 | _ => false
def aop (k : AK) (xs : List AV) (H : AH) : Option (AV × AH) :=
 match k, xs with
 | .mv, [x] => some (x, H)
 | .alloc zs, [] => some (.lp 0 H.length 0 0, H ++ [some (.box zs)])
 | .box, [x] => mW H x
 | .build cs0 ps, xs => (gL ps xs).bind fun qs => (TM cs0 qs).map fun cs => (.agg cs, H)
 | .bsl sz, xs => mX sz H xs
 | .copy, [x, y] => ia H x y
 | .load ag k, [x] => (ald H ag k x).map (·, H)
 | .store k, [x, y] => (ast H k x y).map (.bot, ·)
 | .nilck, [x] => (bj x).map (·, H)
 | .bin op kd, [x, y] => (eS op kd x y).map (·, H)
 | .un op, [x] => (aUn op x).map (·, H)
 | .conv k, [x] => (en k x).map (·, H)
 | .str, [x] => (eu H x).map (·, H)
 | .mkfn f, xs => some (.fn f xs, H)
 | .mksl sz bytes ze, [l, c] => amk sz bytes ze H l c
 | .slice sz z lo hi mx, x :: ys => (cK [lo, hi, mx] ys).bind fun bs => match bs with
   | [l, h, m] => (Zw sz z x l h m).map (·, H)
   | _ => none
 | .sslice lo hi, x :: ys => (cK [lo, hi] ys).bind fun bs => match bs with
   | [l, h] => (WU x l h).map (·, H)
   | _ => none
 | .fadr off, [x] => (ak off x).map (·, H)
 | .iadr sz, [x, y] => (D2 sz x y).map (·, H)
 | .fld ag k off, [x] => match x with
   | .agg cs => (ldc ag k off cs).map (·, H)
   | _ => none
 | .idx ag k len, [x, y] => (mY ag k len x y).map (·, H)
 | .sidx, [x, y] => (Yv x y).map (·, H)
 | .extr i, [x] => (eq x i).map (·, H)
 | .len str, [x] => if isV x = str then (gI x).map (·, H) else none
 | .app sz bytes flat, [x, y] => mV sz bytes flat H x y
 | .mnx mn, [x, y] => (eo mn x y).map (·, H)
 | _, _ => none
def cv (sz : Nat) : Value → AV
 | .slice none 0 0 => .os sz []
 | .agg cs => .agg (cs.toList.map zc)
 | v => .v v
def cO (sz : Nat) : Operand → Option Opd
 | .tmp t => some (.t t)
 | .const v => some (.c (cv sz v))
 | .func f => some (.f f)
 | .global g => (gvs.find? (·.1 == g)).map fun p => .c p.2
def cOs : List Operand → Option (List Opd)
 | [] => some []
 | x :: xs => (cO 1 x).bind fun a => (cOs xs).bind fun as => some (a :: as)
def szT (P : Program) (t : TypeId) : Nat := match P.underlying t with
 | some (.slice e) => match P.info? e with
   | some i => i.size
   | none => 1
 | _ => 1
def eU (P : Program) : List Operand → List TypeId → Option (List Opd)
 | [], _ => some []
 | x :: xs, ts => (cO (szT P (ts.headD 0)) x).bind fun a => (eU P xs ts.tail).bind fun as => some (a :: as)
def TP (places : Array (Nat × Nat)) : List (Nat × Operand) → Option (List (Nat × Nat))
 | [] => some []
 | p :: ps => (places[p.1]?).bind fun q => (TP places ps).bind fun qs => some (q :: qs)
def PT (P : Program) : List Field → Option (List (Nat × Nat))
 | [] => some []
 | f :: fs => (P.info? f.type).bind fun i => (PT P fs).bind fun r => some ((f.offset, i.size) :: r)
def nR (P : Program) : TypeDesc → Option (List (Nat × Nat))
 | .struct fs => PT P fs.toList
 | .array n e => (P.info? e).map fun i => (List.range n).map fun k => (k * i.size, i.size)
 | _ => none
def ew : Nat → List (Nat × Operand) → Bool
 | _, [] => true
 | k, p :: ps => p.1 == k && ew (k + 1) ps
def cOo : Option Operand → Option (List Opd)
 | none => some []
 | some x => (cO 1 x).bind fun a => some [a]
def Zz : Option Operand → Bool
 | some (.const (.int _ 0)) => true
 | _ => false
def oO : TypeDesc → Option IntKind
 | .int k => some k
 | _ => none
def arD : TypeDesc → Option (Nat × TypeId)
 | .array n e => some (n, e)
 | _ => none
def oP : Operand → Option Nat
 | .const (.int _ n) => if 0 ≤ n then some n.toNat else none
 | _ => none
def slD : TypeDesc → Option TypeId
 | .slice e => some e
 | _ => none
def stD : TypeDesc → Option (Array Field)
 | .struct fs => some fs
 | _ => none
def ky : TypeDesc → Bool
 | .string => true
 | _ => false
def u8D (P : Program) : TypeDesc → Bool
 | .slice e => match P.underlying e with
   | some (.int .u8) => true
   | _ => false
 | _ => false
def cvK (P : Program) (ds d : TypeDesc) : Option AK := if ky d then (if u8D P ds then some .str else none) else (oO d).map .conv
@[simp] theorem mZ {P : Program} {ds d : TypeDesc} : (cvK P ds d = some .pick) = False := by
  unfold cvK; split <;> (try split) <;> simp
@[simp] theorem ma {P : Program} {ds d : TypeDesc} {f : Nat} {ms : List Bool} : (cvK P ds d = some (.call f ms)) = False := by
  unfold cvK; split <;> (try split) <;> simp
@[simp] theorem kz {P : Program} {ds d : TypeDesc} {ms : List Bool} : (cvK P ds d = some (.callv ms)) = False := by
  unfold cvK; split <;> (try split) <;> simp
@[simp] theorem mb {P : Program} {ds d : TypeDesc} {ag : Bool} {k : Nat} : (cvK P ds d = some (.load ag k)) = False := by
  unfold cvK; split <;> (try split) <;> simp
@[simp] theorem nS {P : Program} {ds d : TypeDesc} {bo : BinOp} {k : Nat} : (cvK P ds d = some (.bin bo k)) = False := by
  unfold cvK; split <;> (try split) <;> simp
@[simp] theorem mc {P : Program} {ds d : TypeDesc} {ng : Bool} : (cvK P ds d = some (.nilq ng)) = False := by
  unfold cvK; split <;> (try split) <;> simp
def cL (P : Program) (f : Nat) : Bool := match P.funcs[f]? with
 | some fn => !(fn.name == "runtime.NumGoroutine") && fn.body.isSome
 | none => false
def oQ (d : TypeDesc) (op : BinOp) : Operand → Option Bool
 | .const (.slice none 0 0) => match d, op with
   | .slice _, .eql => some false
   | .slice _, .neq => some true
   | _, _ => none
 | _ => none
def k8 : AV → Option Nat
 | .sl _ _ es => some es.length
 | .ls _ _ _ n => some n
 | .lw _ _ _ n => some n
 | .os _ es => some es.length
 | _ => none
def nT (i : TypeInfo) : Bool := match i.zero with
 | some z => R3 (zE z)
 | none => false
def cOp (P : Program) (o : Oper) (ms : List Bool) : Option (AK × List Opd) :=
 match o.op with
 | .move x => (cO (szT P o.type) x).bind fun a => some (.mv, [a])
 | .assign x => (cO (szT P o.type) x).bind fun a => some (.mv, [a])
 | .pick c a b => (cO 1 c).bind fun c => (cO 1 a).bind fun a => (cO 1 b).bind fun b => some (.pick, [c, a, b])
 | .alloc t => (P.info? t).bind fun i => i.zero.bind fun z => some (.alloc (z.cells.toList.map zc), [])
 | .box t x => (cO (szT P t) x).bind fun a => some (.box, [a])
 | .build t ps => (P.underlying t).bind fun d => (P.info? t).bind fun i => i.zero.bind fun z => (nR P d).bind fun pl => (TP pl.toArray ps.toList).bind fun qs => (cOs (ps.toList.map (·.2))).bind fun xs =>
   some (.build (z.cells.toList.map zc) qs, xs)
 | .buildSlice t n ps => (P.underlying t).bind fun d => (slD d).bind fun e => (P.info? e).bind fun i => i.zero.bind fun _ => (cOs (ps.toList.map (·.2))).bind fun xs =>
   if ew 0 ps.toList && n == ps.toList.length && decide (n * i.size ≤ 2 ^ 24) then some (.bsl i.size, xs) else none
 | .load t x => (P.underlying t).bind fun d => (P.info? t).bind fun i => (cO 1 x).bind fun a => some (.load (WQ d) i.size, [a])
 | .store t x y => (P.info? t).bind fun i => (cO 1 x).bind fun a => (cO (szT P t) y).bind fun b => some (.store i.size, [a, b])
 | .nilCheck x => (cO 1 x).bind fun a => some (.nilck, [a])
 | .binOp op t x y _ => (P.underlying t).bind fun d => match oQ d op y with
   | some ng => (cO 1 x).bind fun a => some (.nilq ng, [a])
   | none => (kdS P t d).bind fun kd => (cO 1 x).bind fun a => (cO 1 y).bind fun b => some (.bin op kd, [a, b])
 | .unOp op _ x => (cO 1 x).bind fun a => some (.un op, [a])
 | .convert s t x => (P.underlying s).bind fun ds => (P.underlying t).bind fun d => (cvK P ds d).bind fun k => (cO 1 x).bind fun a => some (k, [a])
 | .makeFunc (.func f) first cap => if first.isEmpty then (cOs cap.toList).bind fun xs => some (.mkfn f, xs) else none
 | .makeSlice t l c => (P.underlying t).bind fun d => (slD d).bind fun e => (P.info? e).bind fun i => i.zero.bind fun z => (cO 1 l).bind fun l => (cO 1 c).bind fun c =>
   if z.cells.size == i.size then some (.mksl i.size i.bytes (zE z), [l, c]) else none
 | .slice t x lo hi mx => (P.underlying t).bind fun d => (cO 1 x).bind fun a => (cOo lo).bind fun l => (cOo hi).bind fun h => (cOo mx).bind fun m =>
   match d with
   | .slice e => (P.info? e).bind fun i => if mx.isSome && !hi.isSome then none else some (.slice i.size (lo.isNone && Zz hi && Zz mx) lo.isSome hi.isSome mx.isSome, a :: (l ++ h ++ m))
   | .string => if mx.isSome then none else some (.sslice lo.isSome hi.isSome, a :: (l ++ h))
   | _ => none
 | .fieldAddr t x k => (P.underlying t).bind fun d => (stD d).bind fun fs => (fs[k]?).bind fun f => (P.info? f.type).bind fun i => (cO 1 x).bind fun a => if i.size == 0 then none else some (.fadr f.offset, [a])
 | .field t x k => (P.underlying t).bind fun d => (stD d).bind fun fs => (fs[k]?).bind fun f => (P.underlying f.type).bind fun d' => (P.info? f.type).bind fun i => (cO 1 x).bind fun a => some (.fld (WQ d') i.size f.offset, [a])
 | .indexAddr t x y => (P.underlying t).bind fun d => match arD d with
   | some (n, e) => (oP y).bind fun k => (P.info? e).bind fun i => (cO 1 x).bind fun a => if k < n then some (.fadr (k * i.size), [a]) else none
   | none => (slD d).bind fun e => (P.info? e).bind fun i => (cO 1 x).bind fun a => (cO 1 y).bind fun b => some (.iadr i.size, [a, b])
 | .index t x y => (P.underlying t).bind fun d => (cO 1 x).bind fun a => (cO 1 y).bind fun b => match d with
   | .array n e => (P.underlying e).bind fun d' => (P.info? e).bind fun i => some (.idx (WQ d') i.size n, [a, b])
   | .string => some (.sidx, [a, b])
   | _ => none
 | .extract x i => (cO 1 x).bind fun a => some (.extr i, [a])
 | .call c => match c.callee with
   | .builtin .len => if c.args.size == 1 then (P.underlying (c.argTypes.getD 0 0)).bind fun d => if b9 d && c.argTypes.size == 1 then (cOs c.args.toList).bind fun xs => some (.len (ky d), xs) else none else none
   | .builtin .append => (P.underlying (c.argTypes.getD 0 0)).bind fun d => (slD d).bind fun e => (P.underlying (c.argTypes.getD 1 0)).bind fun d2 => (slD d2).bind fun _ => (P.info? e).bind fun i => i.zero.bind fun z =>
     if z.cells.size == i.size && c.argTypes.size == 2 && c.args.size == 2 then (eU P c.args.toList c.argTypes.toList).bind fun xs => some (.app i.size i.bytes (nT i), xs) else none
   | .builtin .copy => (P.underlying (c.argTypes.getD 0 0)).bind fun d => (slD d).bind fun e => (P.underlying (c.argTypes.getD 1 0)).bind fun d2 => (slD d2).bind fun _ => (P.info? e).bind fun i =>
     if i.size == 1 && c.argTypes.size == 2 && c.args.size == 2 then (eU P c.args.toList c.argTypes.toList).bind fun xs => some (.copy, xs) else none
   | .builtin .min => if c.args.size == 2 then (cOs c.args.toList).bind fun xs => some (.mnx true, xs) else none
   | .builtin .max => if c.args.size == 2 then (cOs c.args.toList).bind fun xs => some (.mnx false, xs) else none
   | .value (.func f) => if cL P f then (eU P c.args.toList c.argTypes.toList).bind fun xs => some (.call f ms, xs) else none
   | .value f => (cO 1 f).bind fun a => (eU P c.args.toList c.argTypes.toList).bind fun xs => some (.callv ms, a :: xs)
   | _ => none
 | _ => none
end Go.Proofs.Dev
