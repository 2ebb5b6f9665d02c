/- Contracts of the functions of the program over slots and rows, each proved against the program itself; no condition beyond those that each theorem names. -/
import Derived.Test.YtfkmfobbgoflgaaGreatDoorAD
import Derived.Test.YtfkmfobbgoflgaaGreatDoorAE
set_option linter.unusedSimpArgs false
set_option linter.unusedVariables false
set_option maxRecDepth 100000
namespace Go.Proofs.Dev
section
variable {g : Env} {T : List AV} {H : AH} {io : Nat → Option (Nat × Nat)} {B : Nat → List Nat} {tmps : Array Value} {w : World}
theorem Xy {es : List AV} {i : Nat} {e : AV} (h : i < es.length) : Ak (es.set i e) = Ak (es.take i) ++ (Ab e ++ Ak (es.drop (i + 1))) := by
 rw [List.set_eq_take_append_cons_drop, if_pos h, Ba, Ak]
def Oz (H : AH) (id i sz' : Nat) (es xs : List AV) (u : Value) : AH := B8 [(id, .arr 1 (es.set i (.v u))), (H.length, .arr sz' xs)] (SN 1 (AG [id] (BE H)))
def fD (H : AH) (id k i sz' : Nat) (es ys : List AV) : AH := B8 [(id, .arr 1 (es.set i (.os sz' ys)))] (SN 0 (AG [id, k] (BE H)))
theorem Rel.take (h : Rel g T H io B tmps w) {id i sz' : Nat} {es xs : List AV} (hl : H[id]? = some (some (.arr 1 es))) (he : es[i]? = some (.os sz' xs)) :
  ∃ u io' B', Rel g (purgeL T) (Oz H id i sz' es xs u) io' B' tmps w ∧ R (ctx g (Oz H id i sz' es xs u) io' B' w) (.ls sz' H.length 0 xs.length) [] u := by
 have hidlt : id < H.length := Live.lt (r := .arr 1 es) hl
 have hilt : i < es.length := by
  rcases Nat.lt_or_ge i es.length with h1 | h1
  ·exact h1
  ·simp [h1] at he
 rcases h.rows id _ hl with ⟨h0, _⟩ | ⟨b, p, us, S, h1, h2, h3, h4, h5, h6, h7⟩
 ·subst h0; simp at he
 obtain ⟨S1, S2, S3, us1, us2, us3, rfl, rfl, e1, e2, e3, e4, e5⟩ := ML h6 h7 he
 obtain ⟨u, hu0, hu⟩ : ∃ u, us2 = [u] ∧ R ((ctx g H io B w).at 0) (.os sz' xs) S2 u := by
  have e4' : RL ((ctx g H io B w).at 0) [.os sz' xs] S2 us2 := e4
  rw [RL] at e4'
  obtain ⟨A1, A2, u, us', rfl, hus, a1, a2⟩ := e4'
  rw [RL] at a2
  obtain ⟨rfl, rfl⟩ := a2
  exact ⟨u, hus, by simpa using a1⟩
 subst hu0
 have hu' := hu
 rw [R, PM] at hu'
 obtain ⟨a, cap, hu1, hcap, hu2⟩ := hu'
 obtain ⟨pl, hpl⟩ : ∃ pl : Option (Nat × Nat), (cap = 0 ∧ S2 = [] ∧ pl = none) ∨ 0 < cap ∧ ∃ b2 p2 us' S', S2 = b2 :: S' ∧ pl = some (b2, p2) ∧ a = some ⟨b2, p2, none⟩ ∧
   b2 < w.heap.size ∧ Ns w b2 p2 (cap * sz') ∧ Cells w b2 p2 us' ∧ Sized sz' xs ∧ RL ((ctx g H io B w).at 0) (Ak xs) S' us' := by
  rcases hu2 with ⟨c0, hS2⟩ | ⟨c0, b2, p2, us', S', hS2, ha, hb2, hroom2, hcells2, hsz2, hrl2⟩
  ·exact ⟨none, .inl ⟨c0, hS2, rfl⟩⟩
  ·exact ⟨some (b2, p2), .inr ⟨c0, b2, p2, us', S', hS2, rfl, ha, hb2, hroom2, hcells2, hsz2, hrl2⟩⟩
 have hnd := h.nd id
 rw [h2] at hnd
 have hperm : List.Perm (b :: (S1 ++ (S2 ++ S3))) ((b :: (S1 ++ S3)) ++ S2) := by
  refine List.Perm.cons b ?_
  show List.Perm (S1 ++ (S2 ++ S3)) ((S1 ++ S3) ++ S2)
  rw [List.append_assoc]
  exact (List.perm_append_comm (l₁ := S2) (l₂ := S3)).append_left S1
 have hmemB : ∀ x, x ∈ (b :: (S1 ++ S3)) ++ S2 → x ∈ B id := fun x hx => by rw [h2]; exact hperm.mem_iff.2 hx
 let qs : List Q := [⟨id, .arr 1 (es.set i (.v u)), b :: (S1 ++ S3), some (b, p)⟩, ⟨H.length, .arr sz' xs, S2, pl⟩]
 have hqm : ∀ x, (∃ q ∈ qs, x ∈ q.bs) → x ∈ B id := by
  rintro x ⟨q, hq, hx⟩
  refine hmemB x ?_
  simp only [qs, List.mem_cons, List.not_mem_nil, or_false] at hq
  rcases hq with rfl | rfl
  ·exact List.mem_append_left _ hx
  ·exact List.mem_append_right _ hx
 have hset := h.settle true [id] (B id) (fun x hx => ⟨id, by simp, hx⟩) (by simp) w (Kept.refl _ _ _) qs 1 (by simp [qs]; omega) (by
   intro q hq
   simp only [qs, List.mem_cons, List.not_mem_nil, or_false] at hq
   rcases hq with rfl | rfl
   ·exact .inl ⟨by simp, hidlt, h1.symm⟩
   ·exact .inr ⟨Nat.le_refl _, Nat.lt_succ_self _⟩) (by
   show (qs.flatMap (·.bs)).Nodup
   simp only [qs, List.flatMap_cons, List.flatMap_nil, List.append_nil]
   exact hperm.nodup_iff.1 hnd) (by
   intro q hq x hx
   have hm := hqm x ⟨q, hq, hx⟩
   exact ⟨h.lt id x hm, .inr hm⟩) (by
   intro q hq b' p' e
   simp only [qs, List.mem_cons, List.not_mem_nil, or_false] at hq
   rcases hq with rfl | rfl
   ·simp only [Option.some.injEq, Prod.mk.injEq] at e
    rw [← e.1]; simp
   ·simp only at e
    rcases hpl with ⟨_, _, hp⟩ | ⟨_, b2, p2, us', S', hS2, hp, _⟩
    ·rw [hp] at e; cases e
    ·rw [hp] at e; cases e; rw [hS2]; simp) (by
   intro C' hw hbad hio hn q hq
   have hst : Step ((ctx g H io B w).at 0) (C'.at 0) := by
    refine ⟨by simp [Ctx.at, ctx, hw], ?_, fun _ _ hx => by simp [Ctx.at] at hx, Nat.le_refl _, fun _ _ => rfl, fun _ _ _ hr => by simpa [Ctx.at, ctx, hw] using hr⟩
    intro c x _ hx
    simp only [Ctx.at, Classical.not_imp] at hx ⊢
    obtain ⟨rfl, hx⟩ := hx
    refine ⟨⟨rfl, hbad x (fun hq => hx (.inl ⟨id, hqm x hq⟩)) hx⟩, by rw [hw]; rfl⟩
   have hh : ∀ x : Nat, (C'.at 0).w.heap[x]? = ((ctx g H io B w).at 0).w.heap[x]? := fun x => by show C'.w.heap[x]? = w.heap[x]?; rw [hw]
   simp only [qs, List.mem_cons, List.not_mem_nil, or_false] at hq
   rcases hq with rfl | rfl
   ·refine .inr ⟨b, p, us1 ++ ([u] ++ us3), S1 ++ S3, rfl, rfl, by rw [hw]; exact h3, by rw [hw, List.length_set]; exact h4, by rw [hw]; exact h5, h6.set rfl, ?_⟩
    rw [Xy hilt]
    have m1 : RL (C'.at 0) (Ab (.v u)) [] [u] := by
     show RL (C'.at 0) [.v u] [] [u]
     rw [RL]
     exact ⟨[], [], u, [], rfl, rfl, by rw [R]; exact ⟨rfl, rfl⟩, by rw [RL]; exact ⟨rfl, rfl⟩⟩
    exact (RL.step hst _ _ _ (fun x _ => hh x) e3).append (m1.append (RL.step hst _ _ _ (fun x _ => hh x) e5))
   ·rcases hpl with ⟨c0, hS2, hp⟩ | ⟨c0, b2, p2, us', S', hS2, hp, ha, hb2, hroom2, hcells2, hsz2, hrl2⟩
    ·have hx : xs = [] := List.length_eq_zero_iff.1 (by omega)
     exact .inl ⟨hx, hS2, hp⟩
    ·refine .inr ⟨b2, p2, us', S', hp, hS2, by rw [hw]; exact hb2, ?_, by rw [hw]; exact hcells2, hsz2, RL.step hst _ _ _ (fun x _ => hh x) hrl2⟩
     rw [hw]
     intro j hj
     exact hroom2 j (Nat.lt_of_lt_of_le hj (Nat.mul_le_mul_right _ hcap)))
 obtain ⟨s1, s2, s3, s4⟩ := hset
 refine ⟨u, _, _, s1, ?_⟩
 have hk := s3 ⟨H.length, .arr sz' xs, S2, pl⟩ (by simp [qs])
 rw [R]
 refine ⟨rfl, ?_, a, cap, hu1, hcap, ?_⟩
 ·have : (ctx g (Oz H id i sz' es xs u) (ioQ qs io) (bQ qs [id] B) w).n = H.length + 1 := s2
  omega
 ·rcases hpl with ⟨c0, hS2, hp⟩ | ⟨c0, b2, p2, us', S', hS2, hp, ha, hb2, hroom2, hcells2, hsz2, hrl2⟩
  ·exact .inl ⟨c0, by show ioQ qs io H.length = none; rw [← hp]; exact hk⟩
  ·refine .inr ⟨c0, b2, p2, by show ioQ qs io H.length = _; rw [← hp]; exact hk, by simpa using ha, by simpa [ctx] using hroom2⟩
theorem Rel.giveBack (h : Rel g T H io B tmps w) {id k i sz' : Nat} {es ys : List AV} {u : Value} (hl : H[id]? = some (some (.arr 1 es))) (he : es[i]? = some (.v u)) (hk : H[k]? = some (some (.arr sz' ys))) (hne : k ≠ id)
  (hu : R (ctx g H io B w) (.ls sz' k 0 ys.length) [] u) : ∃ io' B', Rel g (purgeL T) (fD H id k i sz' es ys) io' B' tmps w := by
 have hidlt : id < H.length := Live.lt (r := .arr 1 es) hl
 have hilt : i < es.length := by
  rcases Nat.lt_or_ge i es.length with h1 | h1
  ·exact h1
  ·simp [h1] at he
 rcases h.rows id _ hl with ⟨h0, _⟩ | ⟨b, p, us, S, h1, h2, h3, h4, h5, h6, h7⟩
 ·subst h0; simp at he
 obtain ⟨S1, S2, S3, us1, us2, us3, rfl, rfl, e1, e2, e3, e4, e5⟩ := ML h6 h7 he
 obtain ⟨rfl, rfl⟩ : us2 = [u] ∧ S2 = [] := by
  have e4' : RL ((ctx g H io B w).at 0) [.v u] S2 us2 := e4
  rw [RL] at e4'
  obtain ⟨A1, A2, v, us', rfl, hus, a1, a2⟩ := e4'
  rw [RL] at a2
  rw [R] at a1
  obtain ⟨rfl, rfl⟩ := a2
  obtain ⟨rfl, rfl⟩ := a1
  exact ⟨hus, rfl⟩
 have hrk := h.rows k _ hk
 have hnd := h.nd id
 rw [h2] at hnd
 have hdj : ∀ x ∈ B k, x ∉ B id := fun x hx hx2 => hne (h.dj _ _ _ hx hx2)
 have hperm : List.Perm ((b :: (S1 ++ ([] ++ S3))) ++ B k) (b :: (S1 ++ (B k ++ S3))) := by
  refine List.Perm.cons b ?_
  show List.Perm ((S1 ++ ([] ++ S3)) ++ B k) (S1 ++ (B k ++ S3))
  rw [List.nil_append, List.append_assoc]
  exact (List.perm_append_comm (l₁ := S3) (l₂ := B k)).append_left S1
 have hmemB : ∀ x, x ∈ b :: (S1 ++ (B k ++ S3)) → x ∈ B id ∨ x ∈ B k := fun x hx => by
  have := hperm.mem_iff.2 hx
  rcases List.mem_append.1 this with h8 | h8
  ·left; rw [h2]; exact h8
  ·exact .inr h8
 let qs : List Q := [⟨id, .arr 1 (es.set i (.os sz' ys)), b :: (S1 ++ (B k ++ S3)), some (b, p)⟩]
 have hqm : ∀ x, (∃ q ∈ qs, x ∈ q.bs) → x ∈ B id ∨ x ∈ B k := by
  rintro x ⟨q, hq, hx⟩
  simp only [qs, List.mem_cons, List.not_mem_nil, or_false] at hq
  subst hq
  exact hmemB x hx
 have hset := h.settle true [id, k] (B id ++ B k) (fun x hx => by
   rcases List.mem_append.1 hx with h8 | h8
   ·exact ⟨id, by simp, h8⟩
   ·exact ⟨k, by simp, h8⟩) (by simp) w (Kept.refl _ _ _) qs 0 (by simp [qs]) (by
   intro q hq
   simp only [qs, List.mem_cons, List.not_mem_nil, or_false] at hq
   subst hq
   exact .inl ⟨by simp, hidlt, h1.symm⟩) (by
   show (qs.flatMap (·.bs)).Nodup
   simp only [qs, List.flatMap_cons, List.flatMap_nil, List.append_nil]
   refine hperm.nodup_iff.1 ?_
   rw [List.nodup_append]
   exact ⟨hnd, h.nd k, fun x hx y hy e => hdj y hy (by rw [← e, h2]; exact hx)⟩) (by
   intro q hq x hx
   rcases hqm x ⟨q, hq, hx⟩ with hm | hm
   ·exact ⟨h.lt id x hm, .inr (List.mem_append_left _ hm)⟩
   ·exact ⟨h.lt k x hm, .inr (List.mem_append_right _ hm)⟩) (by
   intro q hq b' p' e
   simp only [qs, List.mem_cons, List.not_mem_nil, or_false] at hq
   subst hq
   simp only [Option.some.injEq, Prod.mk.injEq] at e
   rw [← e.1]; simp) (by
   intro C' hw hbad hio hn q hq
   have hst : Step ((ctx g H io B w).at 0) (C'.at 0) := by
    refine ⟨by simp [Ctx.at, ctx, hw], ?_, fun _ _ hx => by simp [Ctx.at] at hx, Nat.le_refl _, fun _ _ => rfl, fun _ _ _ hr => by simpa [Ctx.at, ctx, hw] using hr⟩
    intro c x _ hx
    simp only [Ctx.at, Classical.not_imp] at hx ⊢
    obtain ⟨rfl, hx⟩ := hx
    refine ⟨⟨rfl, hbad x (fun hq => hx (.inl ?_)) hx⟩, by rw [hw]; rfl⟩
    rcases hqm x hq with h8 | h8
    ·exact ⟨id, h8⟩
    ·exact ⟨k, h8⟩
   have hh : ∀ x : Nat, (C'.at 0).w.heap[x]? = ((ctx g H io B w).at 0).w.heap[x]? := fun x => by show C'.w.heap[x]? = w.heap[x]?; rw [hw]
   simp only [qs, List.mem_cons, List.not_mem_nil, or_false] at hq
   subst hq
   refine .inr ⟨b, p, us1 ++ ([u] ++ us3), S1 ++ (B k ++ S3), rfl, rfl, by rw [hw]; exact h3, by rw [hw, List.length_set]; exact h4, by rw [hw]; exact h5, h6.set rfl, ?_⟩
   rw [Xy hilt]
   have m1 : RL (C'.at 0) (Ab (.os sz' ys)) (B k) [u] := by
    show RL (C'.at 0) [.os sz' ys] (B k) [u]
    rw [RL]
    refine ⟨B k, [], u, [], by simp, rfl, ?_, by rw [RL]; exact ⟨rfl, rfl⟩⟩
    rw [R] at hu
    obtain ⟨_, _, a, cap, hu1, hcap, hu2⟩ := hu
    simp only [ctx] at hu2
    rw [R, PM]
    refine ⟨a, cap, hu1, hcap, ?_⟩
    rcases hu2 with ⟨c0, hio0⟩ | ⟨c0, b2, p2, hi2, ha, hroom⟩
    ·left
     refine ⟨c0, ?_⟩
     rcases hrk with ⟨_, hB, _⟩ | ⟨b', p', us', S', k1, _⟩
     ·exact hB
     ·rw [hio0] at k1; cases k1
    ·right
     rcases hrk with ⟨_, _, k1⟩ | ⟨b', p', us', S', k1, k2, k3, k4, k5, k6, k7⟩
     ·rw [hi2] at k1; cases k1
     ·rw [hi2] at k1; cases k1
      simp only [Nat.zero_mul, Nat.add_zero] at ha hroom
      exact ⟨c0, b2, p2, us', S', k2, ha, by rw [show (C'.at 0).w = w from hw]; exact k3, by rw [show (C'.at 0).w = w from hw]; exact hroom, by rw [show (C'.at 0).w = w from hw]; exact k5, k6, RL.step hst _ _ _ (fun x _ => hh x) k7⟩
   exact (RL.step hst _ _ _ (fun x _ => hh x) e3).append (m1.append (RL.step hst _ _ _ (fun x _ => hh x) e5)))
 obtain ⟨s1, _, _, _⟩ := hset
 exact ⟨_, _, s1⟩
end
theorem V4 : ∀ us : List Value, Ak (us.map AV.v) = us.map AV.v
 | [] => rfl
 | u :: us => by show Ab (.v u) ++ Ak (us.map AV.v) = _; rw [V4 us]; rfl
theorem cP (C : Ctx) : ∀ us : List Value, RL C (us.map AV.v) [] us
 | [] => by show RL C [] [] []; rw [RL]; exact ⟨rfl, rfl⟩
 | u :: us => by
   show RL C (.v u :: us.map AV.v) [] (u :: us)
   rw [RL]; exact ⟨[], [], u, us, rfl, rfl, by rw [R]; exact ⟨rfl, rfl⟩, cP C us⟩
theorem V5 {C : Ctx} : ∀ {us vs : List Value} {S : List Nat}, RL C (us.map AV.v) S vs → S = [] ∧ vs = us
 | [], vs, S, h => by
   rw [List.map_nil, RL] at h; exact h
 | u :: us, vs, S, h => by
   rw [List.map_cons, RL] at h
   obtain ⟨S1, S2, x, vs', rfl, rfl, h1, h2⟩ := h
   rw [R] at h1
   obtain ⟨rfl, rfl⟩ := h1
   obtain ⟨rfl, rfl⟩ := V5 h2
   exact ⟨rfl, rfl⟩
theorem bB (us : List Value) : Sized 1 (us.map AV.v) := by
 intro e he
 obtain ⟨u, _, rfl⟩ := List.mem_map.1 he
 rfl
def Xi (es : List AV) : Prop := ∀ e ∈ es, Ab e = [e]
theorem Nh : ∀ {es : List AV}, Xi es → Ak es = es
 | [], _ => rfl
 | e :: es, h => by
   show Ab e ++ Ak es = e :: es
   rw [h e (by simp), Nh fun x hx => h x (by simp [hx])]; rfl
theorem bC {es : List AV} (h : Xi es) : Sized 1 es := by
 intro e he
 rw [h e he]; rfl
section
variable {g : Env} {T : List AV} {H : AH} {io : Nat → Option (Nat × Nat)} {B : Nat → List Nat} {tmps : Array Value} {w : World}
theorem Rel.closeStep (h : Rel g T H io B tmps w) {C' : Ctx} (hw : C'.w = w) (Bs : Nat → Prop) (hb : ∀ x, Bs x → ∃ id, x ∈ B id) (hbad : ∀ x, ¬ Bs x → ¬ ((∃ id, x ∈ B id) ∨ g.forb x) → ¬ C'.bad 0 x) : Step ((ctx g H io B w).at 0) (C'.at 0) := by
 refine ⟨by simp [Ctx.at, ctx, hw], ?_, fun _ _ hx => by simp [Ctx.at] at hx, Nat.le_refl _, fun _ _ => rfl, fun _ _ _ hr => by simpa [Ctx.at, ctx, hw] using hr⟩
 intro c x _ hx
 simp only [Ctx.at, Classical.not_imp] at hx ⊢
 obtain ⟨rfl, hx⟩ := hx
 exact ⟨⟨rfl, hbad x (fun hq => hx (.inl (hb x hq))) hx⟩, by rw [hw]; rfl⟩
def PW (H : AH) (id : Nat) (es : List AV) (us : List Value) : AH := B8 [(id, .arr 1 (us.map .v)), (H.length, .pool us es)] (SN 1 (AG [id] (BE H)))
theorem Rel.takeAll (h : Rel g T H io B tmps w) {id : Nat} {es : List AV} (hl : H[id]? = some (some (.arr 1 es))) (h1 : Xi es) :
  ∃ us io' B', us.length = es.length ∧ (okL es = true → ∀ u ∈ us, u.oneCell' = true) ∧ Rel g (purgeL T) (PW H id es us) io' B' tmps w := by
 have hidlt : id < H.length := Live.lt (r := .arr 1 es) hl
 have hfl := Nh h1
 have main : ∃ (us : List Value) (pl : Option (Nat × Nat)) (Bs S : List Nat), us.length = es.length ∧ io id = pl ∧ B id = Bs ++ S ∧ (∀ b p, pl = some (b, p) → b ∈ Bs) ∧
   RL ((ctx g H io B w).at 0) es S us ∧ ∀ C' : Ctx, C'.w = w → bi C' (.arr 1 (us.map .v)) Bs pl := by
  rcases h.rows id _ hl with ⟨h0, h2, h3⟩ | ⟨b, p, us, S, h2, h3, h4, h5, h6, h7, h8⟩
  ·subst h0
   exact ⟨[], none, [], [], rfl, h3, h2, by simp, by rw [RL]; exact ⟨rfl, rfl⟩, fun C' _ => .inl ⟨rfl, rfl, rfl⟩⟩
  ·rw [hfl] at h8
   have hlen := h8.length
   refine ⟨us, some (b, p), [b], S, hlen.symm ▸ rfl, h2, h3, by simp, h8, fun C' hw => .inr ⟨b, p, us, [], rfl, rfl, by rw [hw]; exact h4, ?_, by rw [hw]; exact h6, bB us, by rw [V4]; exact cP _ us⟩⟩
   rw [hw, List.length_map, hlen]; exact h5
 obtain ⟨us, pl, Bs, S, hlen, hio, hB, hhd, hrl, hrow⟩ := main
 have hnd := h.nd id
 rw [hB] at hnd
 let qs : List Q := [⟨id, .arr 1 (us.map .v), Bs, pl⟩, ⟨H.length, .pool us es, S, none⟩]
 have hqm : ∀ x, (∃ q ∈ qs, x ∈ q.bs) → x ∈ B id := by
  rintro x ⟨q, hq, hx⟩
  rw [hB]
  simp only [qs, List.mem_cons, List.not_mem_nil, or_false] at hq
  rcases hq with rfl | rfl
  ·exact List.mem_append_left _ hx
  ·exact List.mem_append_right _ hx
 have hset := h.settle true [id] (B id) (fun x hx => ⟨id, by simp, hx⟩) (by simp) w (Kept.refl _ _ _) qs 1 (by simp [qs]; omega) (by
   intro q hq
   simp only [qs, List.mem_cons, List.not_mem_nil, or_false] at hq
   rcases hq with rfl | rfl
   ·exact .inl ⟨by simp, hidlt, hio.symm⟩
   ·exact .inr ⟨Nat.le_refl _, Nat.lt_succ_self _⟩) (by
   show (qs.flatMap (·.bs)).Nodup
   simp only [qs, List.flatMap_cons, List.flatMap_nil, List.append_nil]
   exact hnd) (by
   intro q hq x hx
   have hm := hqm x ⟨q, hq, hx⟩
   exact ⟨h.lt id x hm, .inr hm⟩) (by
   intro q hq b' p' e
   simp only [qs, List.mem_cons, List.not_mem_nil, or_false] at hq
   rcases hq with rfl | rfl
   ·exact hhd b' p' e
   ·cases e) (by
   intro C' hw hbad hio2 hn q hq
   have hst := h.closeStep hw (fun x => ∃ q ∈ qs, x ∈ q.bs) (fun x hx => ⟨id, hqm x hx⟩) hbad
   have hh : ∀ x : Nat, (C'.at 0).w.heap[x]? = ((ctx g H io B w).at 0).w.heap[x]? := fun x => by show C'.w.heap[x]? = w.heap[x]?; rw [hw]
   simp only [qs, List.mem_cons, List.not_mem_nil, or_false] at hq
   rcases hq with rfl | rfl
   ·exact hrow C' hw
   ·exact ⟨rfl, fun x hx => by rw [hw]; exact h.lt id x (by rw [hB]; exact List.mem_append_right _ hx), RL.step hst _ _ _ (fun x _ => hh x) hrl⟩)
 exact ⟨us, _, _, hlen, fun hok => Yt (hfl.symm ▸ hrl) hok, hset.1⟩
def Xz (H : AH) (k n : Nat) (us : List Value) (es : List AV) : AH := B8 [(k, .pool (us.take n) (es.take n)), (H.length, .pool (us.drop n) (es.drop n))] (SN 1 (AG [k] (BE H)))
theorem Rel.splitPool (h : Rel g T H io B tmps w) {k n : Nat} {us : List Value} {es : List AV} (hl : H[k]? = some (some (.pool us es))) :
  ∃ io' B', Rel g (purgeL T) (Xz H k n us es) io' B' tmps w := by
 have hklt : k < H.length := Live.lt (r := .pool us es) hl
 obtain ⟨hio, _, hrl⟩ := h.rows k _ hl
 have hsp := hrl
 conv at hsp => arg 2; rw [← List.take_append_drop n es]
 obtain ⟨S1, S2, us1, us2, hS, hus, e1, e2⟩ := hsp.split
 have hl1 := e1.length
 have hn1 : us1 = us.take n ∧ us2 = us.drop n := by
  have hlen := hrl.length
  rw [hus]
  rw [List.length_take] at hl1
  rw [hus, List.length_append] at hlen
  have hl2 := e2.length
  rw [List.length_drop] at hl2
  by_cases hn : n ≤ es.length
  ·have : us1.length = n := by omega
   exact ⟨by rw [← this, List.take_left], by rw [← this, List.drop_left]⟩
  ·have h2 : us2 = [] := List.length_eq_zero_iff.1 (by omega)
   subst h2
   exact ⟨by rw [List.append_nil, List.take_of_length_le (by omega)], by rw [List.append_nil, List.drop_of_length_le (by omega)]⟩
 obtain ⟨rfl, rfl⟩ := hn1
 have hnd := h.nd k
 rw [hS] at hnd
 let qs : List Q := [⟨k, .pool (us.take n) (es.take n), S1, none⟩, ⟨H.length, .pool (us.drop n) (es.drop n), S2, none⟩]
 have hqm : ∀ x, (∃ q ∈ qs, x ∈ q.bs) → x ∈ B k := by
  rintro x ⟨q, hq, hx⟩
  rw [hS]
  simp only [qs, List.mem_cons, List.not_mem_nil, or_false] at hq
  rcases hq with rfl | rfl
  ·exact List.mem_append_left _ hx
  ·exact List.mem_append_right _ hx
 have hset := h.settle true [k] (B k) (fun x hx => ⟨k, by simp, hx⟩) (by simp) w (Kept.refl _ _ _) qs 1 (by simp [qs]; omega) (by
   intro q hq
   simp only [qs, List.mem_cons, List.not_mem_nil, or_false] at hq
   rcases hq with rfl | rfl
   ·exact .inl ⟨by simp, hklt, hio.symm⟩
   ·exact .inr ⟨Nat.le_refl _, Nat.lt_succ_self _⟩) (by
   show (qs.flatMap (·.bs)).Nodup
   simp only [qs, List.flatMap_cons, List.flatMap_nil, List.append_nil]
   exact hnd) (by
   intro q hq x hx
   have hm := hqm x ⟨q, hq, hx⟩
   exact ⟨h.lt k x hm, .inr hm⟩) (by
   intro q hq b' p' e
   simp only [qs, List.mem_cons, List.not_mem_nil, or_false] at hq
   rcases hq with rfl | rfl <;> cases e) (by
   intro C' hw hbad hio2 hn q hq
   have hst := h.closeStep hw (fun x => ∃ q ∈ qs, x ∈ q.bs) (fun x hx => ⟨k, hqm x hx⟩) hbad
   have hh : ∀ x : Nat, (C'.at 0).w.heap[x]? = ((ctx g H io B w).at 0).w.heap[x]? := fun x => by show C'.w.heap[x]? = w.heap[x]?; rw [hw]
   simp only [qs, List.mem_cons, List.not_mem_nil, or_false] at hq
   rcases hq with rfl | rfl
   ·exact ⟨rfl, fun x hx => by rw [hw]; exact h.lt k x (by rw [hS]; exact List.mem_append_left _ hx), RL.step hst _ _ _ (fun x _ => hh x) e1⟩
   ·exact ⟨rfl, fun x hx => by rw [hw]; exact h.lt k x (by rw [hS]; exact List.mem_append_right _ hx), RL.step hst _ _ _ (fun x _ => hh x) e2⟩)
 exact ⟨_, _, hset.1⟩
def PX (H : AH) (id k : Nat) (es : List AV) : AH := B8 [(id, .arr 1 es)] (SN 0 (AG [id, k] (BE H)))
theorem oneE_append {a b : List AV} : Xi (a ++ b) ↔ Xi a ∧ Xi b := by
 unfold Xi
 constructor
 ·intro h; exact ⟨fun e he => h e (by simp [he]), fun e he => h e (by simp [he])⟩
 ·rintro ⟨h1, h2⟩ e he
  rcases List.mem_append.1 he with he | he
  ·exact h1 e he
  ·exact h2 e he
theorem TV (us : List Value) : Xi (us.map AV.v) := by
 intro e he
 obtain ⟨u, _, rfl⟩ := List.mem_map.1 he
 rfl
theorem Rel.implode (h : Rel g T H io B tmps w) {id k : Nat} {us : List Value} {A C es : List AV} (hl : H[id]? = some (some (.arr 1 (A ++ (us.map AV.v ++ C))))) (hk : H[k]? = some (some (.pool us es))) (hne : k ≠ id)
  (hA : Xi A) (hC : Xi C) (hE : Xi es) : ∃ io' B', Rel g (purgeL T) (PX H id k (A ++ (es ++ C))) io' B' tmps w := by
 have hidlt : id < H.length := Live.lt (r := .arr 1 (A ++ (us.map AV.v ++ C))) hl
 obtain ⟨hiok, _, hrlk⟩ := h.rows k _ hk
 have hlk := hrlk.length
 have hdj : ∀ x ∈ B k, x ∉ B id := fun x hx hx2 => hne (h.dj _ _ _ hx hx2)
 have hone : Xi (A ++ (es ++ C)) := oneE_append.2 ⟨hA, oneE_append.2 ⟨hE, hC⟩⟩
 have hone0 : Xi (A ++ (us.map AV.v ++ C)) := oneE_append.2 ⟨hA, oneE_append.2 ⟨TV us, hC⟩⟩
 have main : ∃ (pl : Option (Nat × Nat)) (Bs : List Nat), io id = pl ∧ Bs.Nodup ∧ (∀ x ∈ Bs, x ∈ B id ∨ x ∈ B k) ∧ (∀ b p, pl = some (b, p) → b ∈ Bs) ∧
   ∀ C' : Ctx, C'.w = w → Step ((ctx g H io B w).at 0) (C'.at 0) → bi C' (.arr 1 (A ++ (es ++ C))) Bs pl := by
  rcases h.rows id _ hl with ⟨h0, h2, h3⟩ | ⟨b, p, us0, S, h2, h3, h4, h5, h6, h7, h8⟩
  ·simp only [List.append_eq_nil_iff, List.map_eq_nil_iff] at h0
   obtain ⟨rfl, rfl, rfl⟩ := h0
   have : es = [] := List.length_eq_zero_iff.1 (by simpa using hlk.symm)
   subst this
   exact ⟨none, [], h3, List.nodup_nil, by simp, by simp, fun C' _ _ => .inl ⟨rfl, rfl, rfl⟩⟩
  ·rw [Nh hone0] at h8
   obtain ⟨SA, S1, uA, u1, rfl, rfl, r1, r2⟩ := h8.split
   obtain ⟨S0, SC, u0, uC, rfl, rfl, r3, r4⟩ := r2.split
   obtain ⟨rfl, rfl⟩ := V5 r3
   rw [List.nil_append] at h3
   have hnd := h.nd id
   rw [h3] at hnd
   refine ⟨some (b, p), b :: (SA ++ (B k ++ SC)), h2, ?_, ?_, by simp, ?_⟩
   ·have hperm : List.Perm ((b :: (SA ++ SC)) ++ B k) (b :: (SA ++ (B k ++ SC))) := by
     refine List.Perm.cons b ?_
     show List.Perm ((SA ++ SC) ++ B k) (SA ++ (B k ++ SC))
     rw [List.append_assoc]
     exact (List.perm_append_comm (l₁ := SC) (l₂ := B k)).append_left SA
    refine hperm.nodup_iff.1 ?_
    rw [List.nodup_append]
    exact ⟨hnd, h.nd k, fun x hx y hy e => hdj y hy (by rw [← e, h3]; exact hx)⟩
   ·intro x hx
    rw [h3]
    simp only [List.mem_cons, List.mem_append] at hx ⊢
    rcases hx with hx | hx | hx | hx
    ·exact .inl (.inl hx)
    ·exact .inl (.inr (.inl hx))
    ·exact .inr hx
    ·exact .inl (.inr (.inr hx))
   ·intro C' hw hst
    have hh : ∀ x : Nat, (C'.at 0).w.heap[x]? = ((ctx g H io B w).at 0).w.heap[x]? := fun x => by show C'.w.heap[x]? = w.heap[x]?; rw [hw]
    refine .inr ⟨b, p, uA ++ (u0 ++ uC), SA ++ (B k ++ SC), rfl, rfl, by rw [hw]; exact h4, ?_, by rw [hw]; exact h6, bC hone, ?_⟩
    ·rw [hw]
     have : (A ++ (es ++ C)).length = (A ++ (u0.map AV.v ++ C)).length := by simp [hlk]
     rw [this]; exact h5
    ·rw [Nh hone]
     exact (RL.step hst _ _ _ (fun x _ => hh x) r1).append ((RL.step hst _ _ _ (fun x _ => hh x) hrlk).append (RL.step hst _ _ _ (fun x _ => hh x) r4))
 obtain ⟨pl, Bs, hio, hnd, hmem, hhd, hrow⟩ := main
 let qs : List Q := [⟨id, .arr 1 (A ++ (es ++ C)), Bs, pl⟩]
 have hqm : ∀ x, (∃ q ∈ qs, x ∈ q.bs) → x ∈ B id ∨ x ∈ B k := by
  rintro x ⟨q, hq, hx⟩
  simp only [qs, List.mem_cons, List.not_mem_nil, or_false] at hq
  subst hq
  exact hmem x hx
 have hset := h.settle true [id, k] (B id ++ B k) (fun x hx => by
   rcases List.mem_append.1 hx with h8 | h8
   ·exact ⟨id, by simp, h8⟩
   ·exact ⟨k, by simp, h8⟩) (by simp) w (Kept.refl _ _ _) qs 0 (by simp [qs]) (by
   intro q hq
   simp only [qs, List.mem_cons, List.not_mem_nil, or_false] at hq
   subst hq
   exact .inl ⟨by simp, hidlt, hio.symm⟩) (by
   show (qs.flatMap (·.bs)).Nodup
   simp only [qs, List.flatMap_cons, List.flatMap_nil, List.append_nil]
   exact hnd) (by
   intro q hq x hx
   rcases hqm x ⟨q, hq, hx⟩ with hm | hm
   ·exact ⟨h.lt id x hm, .inr (List.mem_append_left _ hm)⟩
   ·exact ⟨h.lt k x hm, .inr (List.mem_append_right _ hm)⟩) (by
   intro q hq b' p' e
   simp only [qs, List.mem_cons, List.not_mem_nil, or_false] at hq
   subst hq
   exact hhd b' p' e) (by
   intro C' hw hbad hio2 hn q hq
   have hst := h.closeStep hw (fun x => ∃ q ∈ qs, x ∈ q.bs) (fun x hx => by
    rcases hqm x hx with h8 | h8
    ·exact ⟨id, h8⟩
    ·exact ⟨k, h8⟩) hbad
   simp only [qs, List.mem_cons, List.not_mem_nil, or_false] at hq
   subst hq
   exact hrow C' hw hst)
 exact ⟨_, _, hset.1⟩
def RI (H : AH) (k sz : Nat) (xs : List AV) : AH := B8 [(H.length, .arr sz xs)] (SN 1 (AG [k] (BE H)))
theorem Rel.unpool (h : Rel g T H io B tmps w) {k sz : Nat} {u : Value} {xs : List AV} (hk : H[k]? = some (some (.pool [u] [.os sz xs]))) :
  ∃ io' B', Rel g (purgeL T) (RI H k sz xs) io' B' tmps w ∧ R (ctx g (RI H k sz xs) io' B' w) (.ls sz H.length 0 xs.length) [] u := by
 have hklt : k < H.length := Live.lt (r := .pool [u] [.os sz xs]) hk
 obtain ⟨hiok, _, hrlk⟩ := h.rows k _ hk
 have hu : R ((ctx g H io B w).at 0) (.os sz xs) (B k) u := by
  rw [RL] at hrlk
  obtain ⟨A1, A2, u', us', hB, hus, a1, a2⟩ := hrlk
  rw [RL] at a2
  obtain ⟨rfl, rfl⟩ := a2
  cases hus
  rw [List.append_nil] at hB
  rw [hB]; exact a1
 rw [R, PM] at hu
 obtain ⟨a, cap, hu1, hcap, hu2⟩ := hu
 obtain ⟨pl, hpl⟩ : ∃ pl : Option (Nat × Nat), (cap = 0 ∧ B k = [] ∧ pl = none) ∨ 0 < cap ∧ ∃ b2 p2 us' S', B k = b2 :: S' ∧ pl = some (b2, p2) ∧ a = some ⟨b2, p2, none⟩ ∧
   b2 < w.heap.size ∧ Ns w b2 p2 (cap * sz) ∧ Cells w b2 p2 us' ∧ Sized sz xs ∧ RL ((ctx g H io B w).at 0) (Ak xs) S' us' := by
  rcases hu2 with ⟨c0, hS2⟩ | ⟨c0, b2, p2, us', S', hS2, ha, hb2, hroom2, hcells2, hsz2, hrl2⟩
  ·exact ⟨none, .inl ⟨c0, hS2, rfl⟩⟩
  ·exact ⟨some (b2, p2), .inr ⟨c0, b2, p2, us', S', hS2, rfl, ha, hb2, hroom2, hcells2, hsz2, hrl2⟩⟩
 let qs : List Q := [⟨H.length, .arr sz xs, B k, pl⟩]
 have hqm : ∀ x, (∃ q ∈ qs, x ∈ q.bs) → x ∈ B k := by
  rintro x ⟨q, hq, hx⟩
  simp only [qs, List.mem_cons, List.not_mem_nil, or_false] at hq
  subst hq; exact hx
 have hset := h.settle true [k] (B k) (fun x hx => ⟨k, by simp, hx⟩) (by simp) w (Kept.refl _ _ _) qs 1 (by simp [qs]) (by
   intro q hq
   simp only [qs, List.mem_cons, List.not_mem_nil, or_false] at hq
   subst hq
   exact .inr ⟨Nat.le_refl _, Nat.lt_succ_self _⟩) (by
   show (qs.flatMap (·.bs)).Nodup
   simp only [qs, List.flatMap_cons, List.flatMap_nil, List.append_nil]
   exact h.nd k) (by
   intro q hq x hx
   have hm := hqm x ⟨q, hq, hx⟩
   exact ⟨h.lt k x hm, .inr hm⟩) (by
   intro q hq b' p' e
   simp only [qs, List.mem_cons, List.not_mem_nil, or_false] at hq
   subst hq
   simp only at e
   rcases hpl with ⟨_, _, hp⟩ | ⟨_, b2, p2, us', S', hS2, hp, _⟩
   ·rw [hp] at e; cases e
   ·rw [hp] at e; cases e; rw [hS2]; simp) (by
   intro C' hw hbad hio2 hn q hq
   have hst := h.closeStep hw (fun x => ∃ q ∈ qs, x ∈ q.bs) (fun x hx => ⟨k, hqm x hx⟩) hbad
   have hh : ∀ x : Nat, (C'.at 0).w.heap[x]? = ((ctx g H io B w).at 0).w.heap[x]? := fun x => by show C'.w.heap[x]? = w.heap[x]?; rw [hw]
   simp only [qs, List.mem_cons, List.not_mem_nil, or_false] at hq
   subst hq
   rcases hpl with ⟨c0, hS2, hp⟩ | ⟨c0, b2, p2, us', S', hS2, hp, ha, hb2, hroom2, hcells2, hsz2, hrl2⟩
   ·exact .inl ⟨List.length_eq_zero_iff.1 (by omega), hS2, hp⟩
   ·refine .inr ⟨b2, p2, us', S', hp, hS2, by rw [hw]; exact hb2, ?_, by rw [hw]; exact hcells2, hsz2, RL.step hst _ _ _ (fun x _ => hh x) hrl2⟩
    rw [hw]
    intro j hj
    exact hroom2 j (Nat.lt_of_lt_of_le hj (Nat.mul_le_mul_right _ hcap)))
 obtain ⟨s1, s2, s3, s4⟩ := hset
 refine ⟨_, _, s1, ?_⟩
 have hk3 := s3 ⟨H.length, .arr sz xs, B k, pl⟩ (by simp [qs])
 rw [R]
 refine ⟨rfl, ?_, a, cap, hu1, hcap, ?_⟩
 ·have : (ctx g (RI H k sz xs) (ioQ qs io) (bQ qs [k] B) w).n = H.length + 1 := s2
  omega
 ·rcases hpl with ⟨c0, hS2, hp⟩ | ⟨c0, b2, p2, us', S', hS2, hp, ha, hb2, hroom2, hcells2, hsz2, hrl2⟩
  ·exact .inl ⟨c0, by show ioQ qs io H.length = none; rw [← hp]; exact hk3⟩
  ·refine .inr ⟨c0, b2, p2, by show ioQ qs io H.length = _; rw [← hp]; exact hk3, by simpa using ha, by simpa [ctx] using hroom2⟩
theorem Rel.recell (h : Rel g T H io B tmps w) {id o : Nat} {cs : List AV} {u : Value} {av : AV} (hl : H[id]? = some (some (.box cs))) (ho : cs[o]? = some (.v u)) (hr : R (ctx g H io B w) av [] u) :
  ∃ io' B', Rel g T ((AG [] H).set id (some (.box (cs.set o av)))) io' B' tmps w := by
 obtain ⟨b, p, us, h1, h2, h3, h4, h5, h6⟩ := h.rows id _ hl
 have holt : o < cs.length := by
  rcases Nat.lt_or_ge o cs.length with h1 | h1
  ·exact h1
  ·simp [h1] at ho
 have hw := h.write (r := .box cs) hl h1 [] (by simp) w (.box (cs.set o av)) [b] (by simp) (by intro x hx; left; rw [h2]; exact hx) rfl (fun _ _ => rfl) (fun _ _ _ hr => hr) rfl rfl rfl (by
  intro C' hw hio hst
  refine ⟨b, p, us, rfl, rfl, by rw [hw]; exact h3, by rw [hw, List.length_set]; exact h4, by rw [hw]; exact h5, ?_⟩
  have h6' : RL C' cs [] us := RL.step hst _ _ _ (by simp) h6
  have hr' : R C' av [] u := R.step hst _ _ _ (by simp) hr
  have key : ∀ (cs : List AV) (us : List Value) (o : Nat), RL C' cs [] us → cs[o]? = some (.v u) → RL C' (cs.set o av) [] us := by
   intro cs
   induction cs with
   | nil => intro us o _ ho; simp at ho
   | cons c cs ih =>
     intro us o hrl ho
     rw [RL] at hrl
     obtain ⟨S1, S2, x, us', hS, rfl, a1, a2⟩ := hrl
     obtain ⟨rfl, rfl⟩ : S1 = [] ∧ S2 = [] := by simpa using hS.symm
     cases o with
     | zero =>
       simp only [List.getElem?_cons_zero, Option.some.injEq] at ho
       subst ho
       rw [R] at a1
       obtain ⟨_, rfl⟩ := a1
       rw [List.set_cons_zero, RL]
       exact ⟨[], [], x, us', rfl, rfl, hr', a2⟩
     | succ o =>
       simp only [List.getElem?_cons_succ] at ho
       rw [List.set_cons_succ, RL]
       exact ⟨[], [], x, us', rfl, rfl, a1, ih us' o a2 ho⟩
  exact key cs us o h6' ho)
 exact ⟨_, _, hw.1⟩
end
inductive AExit where
 | normal
 | exit (id : Nat)
 | ret
inductive Plan where
 | done
 | take (o : AOper) (p : Plan)
 | alt (o : AOper) (p q : Plan)
 | stop
inductive Tag where
 | op
 | take
 | back (p : Nat)
inductive ACode where
 | skip
 | own (os : List (Tag × AOper))
 | reg (os : List AOper)
 | draw (p : Plan)
 | seq (a b : ACode)
 | cond (c : Opd) (a b : ACode)
 | block (id : Nat) (a : ACode)
 | loop (phs : List (Nat × Nat)) (live : List Nat) (a : ACode)
 | exit (id : Nat)
 | ret
 | gc (phs : List (Nat × Nat)) (live : List Nat) (a : ACode)
 | lg (a : ACode)
 | fail
def AExit.to : AExit → Exit
 | .normal => .normal
 | .exit id => .exit id
 | .ret => .ret
def TW : List Nat → Nat → Option Nat
 | [], _ => none
 | x :: xs, i => if x = i then some 0 else (TW xs i).map (· + 1)
mutual
def ren (ids : List Nat) : AV → AV
 | .ls sz id off n => match TW ids id with
   | some k => .ls sz k off n
   | none => .bot
 | .lw sz id off n => match TW ids id with
   | some k => .lw sz k off n
   | none => .bot
 | .lp sz id i o => match TW ids id with
   | some k => .lp sz k i o
   | none => .bot
 | .agg cs => .agg (renL ids cs)
 | .tup cs => .tup (renL ids cs)
 | .fn f cs => .fn f (renL ids cs)
 | a => a
def renL (ids : List Nat) : List AV → List AV
 | [] => []
 | a :: as => ren ids a :: renL ids as
end
def Z3 (ids : List Nat) : Row → Row
 | .box cs => .box (renL ids cs)
 | r => r
def cQ (ids : List Nat) (H : AH) (id : Nat) : Option Row := match H[id]? with
 | some (some r) => some (Z3 ids r)
 | _ => none
def Ys (ids all : List Nat) (H : AH) : AH := match ids with
 | [] => []
 | id :: ids => cQ all H id :: Ys ids all H
def ii (ids : List Nat) : ES → ES
 | [] => []
 | p :: E => (p.1, ren ids p.2) :: ii ids E
def Yx (live : List Nat) (E : ES) : ES := match live with
 | [] => []
 | i :: live => (i, get E i) :: Yx live E
def mf (xs : List Nat) (i : Nat) : List Nat := if xs.contains i then xs else xs ++ [i]
mutual
def ij (xs : List Nat) : AV → List Nat
 | .ls _ id _ _ => mf xs id
 | .lw _ id _ _ => mf xs id
 | .lp _ id _ _ => mf xs id
 | .agg cs => idsOfL xs cs
 | .tup cs => idsOfL xs cs
 | .fn _ cs => idsOfL xs cs
 | _ => xs
def idsOfL (xs : List Nat) : List AV → List Nat
 | [] => xs
 | a :: as => idsOfL (ij xs a) as
end
def cR (xs : List Nat) : ES → List Nat
 | [] => xs
 | p :: E => cR (ij xs p.2) E
def fE (H : AH) : Nat → Nat → List Nat → List Nat
 | 0, _, xs => xs
 | n + 1, i, xs => match xs[i]? with
   | some id => match H[id]? with
     | some (some (.box cs)) => fE H n (i + 1) (idsOfL xs cs)
     | _ => fE H n (i + 1) xs
   | none => xs
def Yy : List (Nat × Nat) → ES → AH → ES × AH
 | [], E, H => (E, H)
 | p :: ps, E, H => match get E p.1 with
   | .os _ [] => Yy ps ((p.1, .ls p.2 H.length 0 0) :: E) (H ++ [some (.arr p.2 [])])
   | _ => Yy ps E H
def lB (E : ES) (H : AH) : List Nat := fE H H.length 0 (cR [] E)
def GN (phs : List (Nat × Nat)) (live : List Nat) (E : ES) (H : AH) (K : ES → AH → Prop) : Prop :=
 match Yy phs E H with
 | (E1, H1) => match Yx live E1 with
   | E2 => match lB E2 H1 with
     | ids => ids.Nodup ∧ K (ii ids E2) (Ys ids ids H1)
def C6 (I : Nat → ES → AH → Prop) (n : Nat) (E : ES) (H : AH) : Prop := ∃ m, m < n ∧ I m E H
def cS (phs : List (Nat × Nat)) (live : List Nat) (I : Nat → ES → AH → Prop) (n : Nat) (Q : AExit → ES → AH → Prop) : AExit → ES → AH → Prop
 | .normal, E, H => GN phs live E H (C6 I n)
 | e, E, H => Q e E H
def EO (phs : List (Nat × Nat)) (live : List Nat) (body : (AExit → ES → AH → Prop) → ES → AH → Prop) (Q : AExit → ES → AH → Prop) (E : ES) (H : AH) : Prop :=
 ∃ (I : Nat → ES → AH → Prop) (n : Nat), I n E H ∧ ∀ n E H, I n E H → body (cS phs live I n Q) E H
def X0 (K : ES → AH → Prop) (Q : AExit → ES → AH → Prop) : AExit → ES → AH → Prop
 | .normal => K
 | e => Q e
def PY (id : Nat) (Q : AExit → ES → AH → Prop) : AExit → ES → AH → Prop
 | .exit id' => if id' = id then Q .normal else Q (.exit id')
 | e => Q e
def Cv (P : Program) (md : Nat → List Bool) : Plan → (ES → AH → Prop) → ES → AH → Prop
 | .done, K, E, H => K E H
 | .take o p, K, E, H => Nu P md o E H (Cv P md p K)
 | .alt o p q, K, E, H => Nu P md o E H (Cv P md p K) ∧ Cv P md q K E H
 | .stop, _, _, _ => True
def WZ (pin : Option (Nat × Value)) (dst : Option Nat) : Prop := match pin, dst with
 | some (d, _), some e => d ≠ e
 | _, _ => True
def fF (o : AOper) (E : ES) (H : AH) (K : Option (Nat × Value) → ES → AH → Prop) : Prop :=
 ∃ d p id i es sz' xs, o = ⟨some d, .load false 1, [.t p], none⟩ ∧ get E p = .lp 1 id i 0 ∧ H[id]? = some (some (.arr 1 es)) ∧ es[i]? = some (.os sz' xs) ∧
   ∀ u, K (some (d, u)) (Ec (B9 E) (some d) (.ls sz' H.length 0 xs.length)) (Oz H id i sz' es xs u)
def Z4 (p : Nat) (pin : Option (Nat × Value)) (K : ES → AH → Prop) (E : ES) (H : AH) : Prop :=
 ∃ d u id i es sz' k ys, pin = some (d, u) ∧ get E p = .lp 1 id i 0 ∧ H[id]? = some (some (.arr 1 es)) ∧ es[i]? = some (.v u) ∧ get E d = .ls sz' k 0 ys.length ∧ H[k]? = some (some (.arr sz' ys)) ∧ k ≠ id ∧
   K (B9 E) (fD H id k i sz' es ys)
def Yz (P : Program) (md : Nat → List Bool) : List (Tag × AOper) → Option (Nat × Value) → (ES → AH → Prop) → ES → AH → Prop
 | [], _, K, E, H => K E H
 | (.op, o) :: os, pin, K, E, H => WZ pin o.dst ∧ Nu P md o E H (Yz P md os pin K)
 | (.take, o) :: os, _, K, E, H => fF o E H fun pin => Yz P md os pin K
 | (.back p, o) :: os, pin, K, E, H => WZ pin o.dst ∧ Nu P md o E H (Z4 p pin (Yz P md os none K))
inductive Lg (K : ES → AH → Prop) : ES → AH → Prop where
 | done {E : ES} {H : AH} : K E H → Lg K E H
 | takeAll {E : ES} {H : AH} (id : Nat) (es : List AV) : H[id]? = some (some (.arr 1 es)) → Xi es → (∀ us : List Value, us.length = es.length → (okL es = true → ∀ u ∈ us, u.oneCell' = true) → Lg K (B9 E) (PW H id es us)) → Lg K E H
 | split {E : ES} {H : AH} (k n : Nat) (us : List Value) (es : List AV) : H[k]? = some (some (.pool us es)) → Lg K (B9 E) (Xz H k n us es) → Lg K E H
 | implode {E : ES} {H : AH} (id k : Nat) (us : List Value) (A C es : List AV) : H[id]? = some (some (.arr 1 (A ++ (us.map AV.v ++ C)))) → H[k]? = some (some (.pool us es)) → k ≠ id → Xi A → Xi C → Xi es →
   Lg K (B9 E) (PX H id k (A ++ (es ++ C))) → Lg K E H
 | unpool {E : ES} {H : AH} (k sz id o : Nat) (u : Value) (xs cs : List AV) : H[k]? = some (some (.pool [u] [.os sz xs])) → (RI H k sz xs)[id]? = some (some (.box cs)) → cs[o]? = some (.v u) →
   Lg K (B9 E) ((RI H k sz xs).set id (some (.box (cs.set o (.ls sz H.length 0 xs.length))))) → Lg K E H
def awp (P : Program) (md : Nat → List Bool) : ACode → (AExit → ES → AH → Prop) → ES → AH → Prop
 | .skip, Q, E, H => Q .normal E H
 | .reg os, Q, E, H => Hw P md os (Q .normal) E H
 | .own os, Q, E, H => Yz P md os none (Q .normal) E H
 | .draw p, Q, E, H => Cv P md p (Q .normal) E H
 | .seq a b, Q, E, H => awp P md a (X0 (awp P md b Q) Q) E H
 | .cond c a b, Q, E, H => ∃ t, evE E c = .v (.bool t) ∧ (t = true → awp P md a Q E H) ∧ (t = false → awp P md b Q E H)
 | .block id a, Q, E, H => awp P md a (PY id Q) E H
 | .loop phs live a, Q, E, H => GN phs live E H (EO phs live (awp P md a) Q)
 | .exit id, Q, E, H => Q (.exit id) E H
 | .ret, Q, E, H => Q .ret E H
 | .gc phs live a, Q, E, H => GN phs live E H (awp P md a Q)
 | .lg a, Q, E, H => Lg (awp P md a Q) E H
 | .fail, _, _, _ => False
def erase : ACode → ACode
 | .seq a b => .seq (erase a) (erase b)
 | .cond c a b => .cond c (erase a) (erase b)
 | .block id a => .block id (erase a)
 | .loop _ _ a => .loop [] [] (erase a)
 | .gc _ _ a => erase a
 | .lg a => erase a
 | .own os => .reg (os.map (·.2))
 | a => a
def X1 (P : Program) (n : Nat) (ops : Array Oper) (i : Nat) : Bool := match ops[i]? with
 | some o => match F3 P n ops o with
   | some a => RG a.k
   | none => false
 | none => false
def HZ (P : Program) (n : Nat) (ops : Array Oper) (sub : Nat → Option Plan) : List Nat → Option Plan
 | [] => some .stop
 | i :: rs => (ops[i]?).bind fun o => (F3 P n ops o).bind fun a => (sub i).bind fun p => (HZ P n ops sub rs).bind fun q => some (.alt a p q)
def TX (P : Program) (n : Nat) (ops : Array Oper) : Nat → Array Bool → Option Plan
 | 0, listed => if (Region.ready .any ops listed).isEmpty then some .done else none
 | fuel + 1, listed => if (Region.ready .any ops listed).isEmpty then some .done else
   match (Region.ready .any ops listed).find? fun i => Region.free .any ops listed i && X1 P n ops i with
   | some i => (ops[i]?).bind fun o => (F3 P n ops o).bind fun a => (TX P n ops fuel (listed.setIfInBounds i true)).bind fun p => some (.take a p)
   | none => HZ P n ops (fun i => TX P n ops fuel (listed.setIfInBounds i true)) (Region.ready .any ops listed)
def oR (P : Program) (n : Nat) (ops : Array Oper) : ACode := match PV P n ops ops.toList with
 | some os => .reg os
 | none => .fail
def lC (P : Program) (n : Nat) (ops : Array Oper) : ACode := if P.follows .mixedOrders && Region.noSelect ops then (match TX P n ops ops.size (Array.replicate ops.size false) with
 | some p => .draw p
 | none => .fail) else .fail
def I8 (P : Program) (n : Nat) : Code → Option ACode
 | .skip => some .skip
 | .region _ ops false => some (oR P n ops)
 | .region _ ops true => some (lC P n ops)
 | .seq a b => (I8 P n a).bind fun a => (I8 P n b).bind fun b => some (.seq a b)
 | .cond c a b => if a8 n c then (cO 1 c).bind fun c => (I8 P n a).bind fun a => (I8 P n b).bind fun b => if Xx n c then some (.cond c a b) else none else none
 | .block id a => (I8 P n a).bind fun a => some (.block id a)
 | .loop a => (I8 P n a).bind fun a => some (.loop [] [] a)
 | .exit id => some (.exit id)
 | .ret => some .ret
 | _ => some .fail
theorem El {P : Program} {n id : Nat} {ops : Array Oper} {d : Bool} {x : ACode} (h : I8 P n (.region id ops d) = some x) :
  x = .fail ∨ (∃ os, d = false ∧ x = .reg os ∧ PV P n ops ops.toList = some os) ∨ ∃ p, d = true ∧ x = .draw p ∧ (P.follows .mixedOrders && Region.noSelect ops) = true ∧ TX P n ops ops.size (Array.replicate ops.size false) = some p := by
 cases d with
 | false =>
   simp only [I8, Option.some.injEq, oR] at h
   split at h
   ·rename_i os hos; exact .inr (.inl ⟨os, rfl, h.symm, hos⟩)
   ·exact .inl h.symm
 | true =>
   simp only [I8, Option.some.injEq, lC] at h
   split at h
   ·rename_i hc
    split at h
    ·rename_i p hp; exact .inr (.inr ⟨p, rfl, h.symm, hc, hp⟩)
    ·exact .inl h.symm
   ·exact .inl h.symm
section
variable {P : Program} {md : Nat → List Bool} {g : Env} {n : Nat} {gh : Array Value}
theorem X2 (hg : ∀ x, g.forb x → x < g.w0.heap.size) {ops : Array Oper} {Q : Exit → Act → World → Prop} : ∀ (os : List Oper) (aos : List AOper) (k : Nat) {E : ES} {H : AH} {io : Nat → Option (Nat × Nat)} {B : Nat → List Nat} {w : World} {a : Act} {K : ES → AH → Prop},
  PV P n ops os = some aos → (∀ i o, os[i]? = some o → ops[k + i]? = some o) → k + os.length = ops.size → RelE n gh g E H io B a w → Hw P md aos K E H → (∀ E' H' io' B' a' w', K E' H' → RelE n gh g E' H' io' B' a' w' → Q .normal a' w') →
  wpOps P ops Q (List.range' k os.length) a w
 | [], aos, k, E, H, io, B, w, a, K, hc, hi, hl, h, hk, hq => by
   simp only [PV, Option.some.injEq] at hc; subst hc
   simp only [List.length_nil, List.range'_zero, wpOps]
   exact hq _ _ _ _ _ _ hk h
 | o :: os, aos, k, E, H, io, B, w, a, K, hc, hi, hl, h, hk, hq => by
   simp only [PV, Option.bind_eq_some_iff, Option.some.injEq] at hc
   obtain ⟨ao, hao, aos', haos, rfl⟩ := hc
   have ho : ops[k]? = some o := by simpa using hi 0 o (by simp)
   rw [List.length_cons, List.range'_succ]
   simp only [wpOps, ho]
   have hl' : k + 1 + os.length = ops.size := by rw [← hl, List.length_cons]; omega
   have rest : ∀ E' H' io' B' a' w', Hw P md aos' K E' H' → RelE n gh g E' H' io' B' a' w' → wpOps P ops Q (List.range' (k + 1) os.length) a' w' := by
    intro E' H' io' B' a' w' hK hR
    exact X2 hg os aos' (k + 1) haos (fun i o' ho' => by have := hi (i + 1) o' (by simpa using ho'); rw [show k + 1 + i = k + (i + 1) by omega]; exact this) hl' hR hK hq
   simp only [Hw, Nu] at hk
   have hao' := hao
   simp only [F3, Option.bind_eq_some_iff] at hao'
   obtain ⟨kx, hkx, hao'⟩ := hao'
   split at hao'
   case isFalse => cases hao'
   rename_i hok
   simp only [fA, Bool.and_eq_true] at hok
   have hdst : ∀ d, o.dst = some d → d < n := by
    intro d hd
    have := hok.2
    rw [hd] at this; simpa using this
   split at hao'
   ·rename_i hgd
    cases hao'
    have hw : Region.wanted o (yielded ops a.tmps) = true := by simp [Region.wanted, hgd]
    rw [if_pos hw]
    exact .inl (WY h hg hao hk fun E' H' io' B' a' w' hK hR _ => rest E' H' io' B' a' w' hK hR)
   ·rename_i j want hgd
    simp only [Option.bind_eq_some_iff] at hao'
    obtain ⟨s, hs, hao'⟩ := hao'
    split at hao'
    case isFalse => cases hao'
    rename_i hsn
    cases hao'
    simp only at hk
    obtain ⟨oj, hoj, hds⟩ := hs
    obtain ⟨u, hu, hr⟩ := h.rel.get s
    rw [Hv (Nat.lt_of_lt_of_le hsn (Nat.le_add_right _ _))] at hr
    have hsz := h.size
    have hlt : s < a.tmps.size := by rw [hsz]; exact hsn
    have hu' : a.tmps[s]? = some u := by
     rw [← hu]
     simp [Array.getD, hlt, Array.getElem_append_left, Nat.lt_of_lt_of_le hlt (Nat.le_add_right _ _)]
    have hskip : Hw P md aos' K (Ec E o.dst (.v undef)) H → wpOps P ops Q (List.range' (k + 1) os.length) (a.put o.dst undef) w :=
     fun hK => rest _ _ io B _ _ hK (h.put hdst (by rw [R]; exact ⟨rfl, rfl⟩))
    split at hk
    ·rename_i b hb
     rw [hb, R] at hr
     obtain ⟨_, rfl⟩ := hr
     have hy : yielded ops a.tmps j = some b := by simp [yielded, hoj, hds, hu']
     by_cases hbw : b = want
     ·have hw : Region.wanted o (yielded ops a.tmps) = true := by simp [Region.wanted, hgd, hy, hbw]
      rw [if_pos hw]
      exact .inl (WY ⟨h.size, by rw [TC (by rw [hb, hbw])]; exact h.rel, h.defers⟩ hg hao (hk.1 hbw) fun E' H' io' B' a' w' hK hR _ => rest E' H' io' B' a' w' hK hR)
     ·have hw : ¬ Region.wanted o (yielded ops a.tmps) = true := by simp [Region.wanted, hgd, hy, hbw]
      rw [if_neg hw]
      have hbn : b = !want := by cases b <;> cases want <;> simp_all
      exact rest _ _ io B _ _ (hk.2 hbn) (RelE.put (a := a) ⟨h.size, by rw [TC (by rw [hb, hbn])]; exact h.rel, h.defers⟩ hdst (by rw [R]; exact ⟨rfl, rfl⟩))
    ·rename_i vs hb
     rw [hb, R] at hr
     obtain ⟨_, rfl⟩ := hr
     have hy : yielded ops a.tmps j = none := by simp [yielded, hoj, hds, hu']
     have hw : ¬ Region.wanted o (yielded ops a.tmps) = true := by simp [Region.wanted, hgd, hy]
     rw [if_neg hw]
     exact hskip hk
    ·exact hk.elim
end
section
variable {g : Env} {T : List AV} {H : AH} {io : Nat → Option (Nat × Nat)} {B : Nat → List Nat} {tmps : Array Value} {w : World}
theorem Rel.push (h : Rel g T H io B tmps w) {av : AV} {u : Value} (hr : R (ctx g H io B w) av [] u) : Rel g (T ++ [av]) H io B (tmps.push u) w := by
 refine { h with size := by simp [h.size], tmps := ?_ }
 intro i a hi
 have hs := h.size
 by_cases hl : i < T.length
 ·rw [List.getElem?_append_left hl] at hi
  obtain ⟨v, hv, hr⟩ := h.tmps i a hi
  refine ⟨v, ?_, hr⟩
  rw [Array.getElem?_push, if_neg (by omega)]; exact hv
 ·rw [List.getElem?_append_right (by omega)] at hi
  have : i - T.length = 0 := by
   rcases Nat.eq_zero_or_pos (i - T.length) with h1 | h1
   ·exact h1
   ·rw [List.getElem?_eq_none (by simp; omega)] at hi; cases hi
  rw [this] at hi
  simp only [List.getElem?_cons_zero, Option.some.injEq] at hi
  subst hi
  refine ⟨u, ?_, hr⟩
  rw [Array.getElem?_push, if_pos (by omega)]
theorem Rel.pop {av : AV} {u : Value} (h : Rel g (T ++ [av]) H io B (tmps.push u) w) : Rel g T H io B tmps w := by
 have hs : tmps.size = T.length := by have := h.size; simpa using this
 refine { h with size := hs, tmps := ?_ }
 intro i a hi
 have hl : i < T.length := by
  rcases Nat.lt_or_ge i T.length with h1 | h1
  ·exact h1
  ·simp [h1] at hi
 obtain ⟨v, hv, hr⟩ := h.tmps i a (by rw [List.getElem?_append_left hl]; exact hi)
 refine ⟨v, ?_, hr⟩
 rw [Array.getElem?_push, if_neg (by omega)] at hv; exact hv
end
theorem Z5 (n : Nat) (E : ES) : toT (n + 1) E = toT n E ++ [get E n] := by simp [toT, List.range_succ]
theorem Z6 {n m : Nat} {E : ES} {av : AV} (h : n ≤ m) : toT n ((m, av) :: E) = toT n E := by
 unfold toT
 apply List.map_congr_left
 intro i hi
 have : i < n := by simpa using hi
 simp only [get]
 rw [if_neg (by omega)]
theorem cT (H : AH) {id i sz' : Nat} {es xs : List AV} {u : Value} (hid : id < H.length) : (Oz H id i sz' es xs u)[id]? = some (some (.arr 1 (es.set i (.v u)))) := by
 have h1 : ∀ p ∈ [(id, Row.arr 1 (es.set i (.v u))), (H.length, .arr sz' xs)], p.1 < (SN 1 (AG [id] (BE H))).length := by
  intro p hp
  simp only [List.mem_cons, List.not_mem_nil, or_false] at hp
  simp only [SN, List.length_append, AW, HY, List.length_replicate]
  rcases hp with rfl | rfl <;> simp only <;> omega
 have := (FF [(id, Row.arr 1 (es.set i (.v u))), (H.length, .arr sz' xs)] (SN 1 (AG [id] (BE H))) id (.arr 1 (es.set i (.v u))) (by simp; omega) h1).2 (.inl (by simp))
 exact this
section
variable {P : Program} {md : Nat → List Bool} {g : Env} {n : Nat} {gh : Array Value} {E : ES} {H : AH} {io : Nat → Option (Nat × Nat)} {B : Nat → List Nat} {w : World} {a : Act}
theorem KN {ops : Array Oper} {o : Oper} {ao : AOper} (hc : F3 P n ops o = some ao) : ao.dst = o.dst ∧ (∀ d, o.dst = some d → d < n) ∧ ∀ x ∈ ao.xs, Xx n x = true := by
 simp only [F3, Option.bind_eq_some_iff] at hc
 obtain ⟨⟨k, xs⟩, hop, hc⟩ := hc
 split at hc
 case isFalse => cases hc
 rename_i hcond
 simp only [fA, Bool.and_eq_true, Bool.not_eq_true'] at hcond
 obtain ⟨⟨⟨c1, c2⟩, c3⟩, c4⟩ := hcond
 refine ⟨?_, ?_, ?_⟩
 ·split at hc
  ·cases hc; rfl
  ·simp only [Option.bind_eq_some_iff] at hc
   obtain ⟨s, _, hc⟩ := hc
   split at hc
   ·cases hc; rfl
   ·cases hc
 ·intro d hd
  rw [hd] at c4; simpa using c4
 ·split at hc
  ·cases hc; exact fun x hx => List.all_eq_true.1 c2 x hx
  ·simp only [Option.bind_eq_some_iff] at hc
   obtain ⟨s, _, hc⟩ := hc
   split at hc
   ·cases hc; exact fun x hx => List.all_eq_true.1 c2 x hx
   ·cases hc
theorem fG (h : RelE n gh g E H io B a w) (hg : ∀ x, g.forb x → x < g.w0.heap.size) {ops : Array Oper} {o : Oper} {d p : Nat} (hc : F3 P n ops o = some ⟨some d, .load false 1, [.t p], none⟩)
  {id i sz' : Nat} {es xs : List AV} (hp : get E p = .lp 1 id i 0) (hl : H[id]? = some (some (.arr 1 es))) (he : es[i]? = some (.os sz' xs)) {next : Act → World → Prop} {Q : Exit → Act → World → Prop}
  (hn : ∀ u io' B' w', RelE n gh g (Ec (B9 E) (some d) (.ls sz' H.length 0 xs.length)) (Oz H id i sz' es xs u) io' B' (a.put (some d) u) w' → next (a.put (some d) u) w') : o.wp P a w next Q := by
 obtain ⟨hdst, hdn, hxs⟩ := KN hc
 simp only at hdst hxs
 have hd : d < n := hdn d hdst.symm
 have hpn : p < n := by simpa [Xx] using hxs (.t p) (by simp)
 obtain ⟨u, io1, B1, h1, hu⟩ := h.rel.take hl he
 rw [FT] at h1
 have hidlt : id < H.length := Live.lt (r := .arr 1 es) hl
 have hilt : i < es.length := by
  rcases Nat.lt_or_ge i es.length with h1 | h1
  ·exact h1
  ·simp [h1] at he
 have hpush := h1.push hu
 have eT : toT (n + gh.size) (B9 E) ++ [.ls sz' H.length 0 xs.length] = toT (n + (gh.push u).size) ((n + gh.size, .ls sz' H.length 0 xs.length) :: B9 E) := by
  rw [Array.size_push, ← Nat.add_assoc, Z5, Z6 (Nat.le_refl _)]
  simp [get]
 have eA : (a.tmps ++ gh).push u = a.tmps ++ gh.push u := by rw [Array.append_push]
 rw [eT, eA] at hpush
 have h2 : RelE n (gh.push u) g ((n + gh.size, .ls sz' H.length 0 xs.length) :: B9 E) (Oz H id i sz' es xs u) io1 B1 a w := ⟨h.size, hpush, h.defers⟩
 have hget : get ((n + gh.size, AV.ls sz' H.length 0 xs.length) :: B9 E) p = .lp 1 id i 0 := by
  simp only [get]
  rw [if_neg (by omega), B6, hp]
  simp [I7]
 have hk : Ho P (fun _ => []) ⟨some d, .load false 1, [.t p], none⟩ ((n + gh.size, .ls sz' H.length 0 xs.length) :: B9 E) (Oz H id i sz' es xs u)
   (fun E2 H2 => E2 = Ec ((n + gh.size, .ls sz' H.length 0 xs.length) :: B9 E) (some d) (.v u) ∧ H2 = Oz H id i sz' es xs u) := by
  show TD (aop (.load false 1) [get ((n + gh.size, AV.ls sz' H.length 0 xs.length) :: B9 E) p] _) _
  rw [hget]
  refine ⟨(.v u, Oz H id i sz' es xs u), ?_, rfl, rfl⟩
  simp [aop, ald, cT H hidlt, hilt, ldc, Ab, vwL, vw]
 refine WY h2 hg hc hk ?_
 rintro E' H' io' B' a' w' ⟨rfl, rfl⟩ hR ⟨v, rfl⟩
 rw [← hdst] at hR ⊢
 have hsz := h.size
 have hR1 := hR.rel
 have hvu : v = u := by
  obtain ⟨x, hx, hr⟩ := hR1.get d
  rw [Hv (by omega)] at hr
  simp only [Ec, get, if_true] at hr
  rw [R] at hr
  have : ((a.put (some d) v).tmps ++ gh.push u).getD d undef = v := by
   have hlt : d < a.tmps.size := by omega
   have hlt2 : d < a.tmps.size + (gh.size + 1) := by omega
   simp [Act.put, Array.getD, hlt, hlt2, Array.getElem_append_left]
  rw [this] at hx
  rw [hx, hr.2]
 subst hvu
 have hls : R (ctx g (Oz H id i sz' es xs v) io' B' w') (.ls sz' H.length 0 xs.length) [] v := by
  obtain ⟨x, hx, hr⟩ := hR1.get (n + gh.size)
  rw [Hv (by rw [Array.size_push]; omega)] at hr
  simp only [Ec, get] at hr
  rw [if_neg (by omega)] at hr
  simp only [if_true] at hr
  have : ((a.put (some d) v).tmps ++ gh.push v).getD (n + gh.size) undef = v := by
   have hlt : ¬ n + gh.size < a.tmps.size := by omega
   have hlt2 : n + gh.size < a.tmps.size + (gh.size + 1) := by omega
   have e : n + gh.size - a.tmps.size = gh.size := by omega
   simp [Act.put, Array.getD, hlt2, Array.getElem_append_right, hsz]
  rw [this] at hx
  rw [← hx] at hr
  exact hr
 refine hn v io' B' w' ?_
 have h3 := hR1.put (some d) hls
 rw [WX] at h3
 have eV : eR ((a.put (some d) v).tmps ++ gh.push v) (some d) v = ((a.put (some d) v).tmps ++ gh).push v := by
  rw [Array.append_push]
  simp only [eR]
  apply Array.ext_getElem?
  intro j
  rw [Array.getElem?_setIfInBounds]
  by_cases hj : d = j
  ·subst hj
   have hlt : d < a.tmps.size := by omega
   have hlt2 : d < a.tmps.size + (gh.size + 1) := by omega
   simp [Act.put, hlt, hlt2, Array.getElem?_append_left]
  ·rw [if_neg hj]
 have eT2 : toT (n + (gh.push v).size) (Ec (Ec ((n + gh.size, AV.ls sz' H.length 0 xs.length) :: B9 E) (some d) (.v v)) (some d) (.ls sz' H.length 0 xs.length)) =
   toT (n + gh.size) (Ec (B9 E) (some d) (.ls sz' H.length 0 xs.length)) ++ [.ls sz' H.length 0 xs.length] := by
  rw [Array.size_push, ← Nat.add_assoc, Z5]
  congr 1
  ·unfold toT
   apply List.map_congr_left
   intro j hj
   have hj' : j < n + gh.size := by simpa using hj
   simp only [Ec, get]
   by_cases e : d = j
   ·rw [if_pos e, if_pos e]
   ·rw [if_neg e, if_neg e, if_neg e, if_neg (by omega)]
  ·simp only [Ec, get]
   rw [if_neg (by omega), if_neg (by omega)]
   simp only [if_true]
 rw [eT2, eV] at h3
 exact ⟨hR.size, h3.pop, hR.defers⟩
theorem fH (h : RelE n gh g E H io B a w) {d p : Nat} {u : Value} (hd : d < n) (hpin : a.tmps.getD d undef = u)
  {id i sz' k : Nat} {es ys : List AV} (hl : H[id]? = some (some (.arr 1 es))) (he : es[i]? = some (.v u)) (hls : get E d = .ls sz' k 0 ys.length) (hk : H[k]? = some (some (.arr sz' ys))) (hne : k ≠ id) :
  ∃ io' B', RelE n gh g (B9 E) (fD H id k i sz' es ys) io' B' a w := by
 have hsz := h.size
 obtain ⟨x, hx, hr⟩ := h.rel.get d
 rw [Hv (by omega), hls] at hr
 have hxu : x = u := by
  rw [← hx, ← hpin]
  have hlt : d < a.tmps.size := by omega
  have hlt2 : d < a.tmps.size + gh.size := by omega
  simp [Array.getD, hlt, hlt2, Array.getElem_append_left]
 subst hxu
 obtain ⟨io', B', h1⟩ := h.rel.giveBack hl he hk hne hr
 rw [FT] at h1
 exact ⟨io', B', h.size, h1, h.defers⟩
def PinAt (n : Nat) (pin : Option (Nat × Value)) (a : Act) : Prop := ∀ d u, pin = some (d, u) → d < n ∧ a.tmps.getD d undef = u
theorem PinAt.put {pin : Option (Nat × Value)} {dst : Option Nat} {v : Value} (h : PinAt n pin a) (hp : WZ pin dst) : PinAt n pin (a.put dst v) := by
 intro d u e
 obtain ⟨h1, h2⟩ := h d u e
 refine ⟨h1, ?_⟩
 subst e
 cases dst with
 | none => exact h2
 | some e =>
   have hne : d ≠ e := hp
   rw [← h2]
   simp only [Act.put, Array.getD_eq_getD_getElem?, Array.getElem?_setIfInBounds]
   rw [if_neg (Ne.symm hne)]
theorem Wa (hg : ∀ x, g.forb x → x < g.w0.heap.size) {ops : Array Oper} {Q : Exit → Act → World → Prop} : ∀ (items : List (Tag × AOper)) (os : List Oper) (k : Nat) (pin : Option (Nat × Value)) {E : ES} {H : AH} {io : Nat → Option (Nat × Nat)} {B : Nat → List Nat} {w : World} {a : Act} {K : ES → AH → Prop},
  PV P n ops os = some (items.map (·.2)) → (∀ i o, os[i]? = some o → ops[k + i]? = some o) → RelE n gh g E H io B a w → PinAt n pin a → Yz P md items pin K E H → (∀ E' H' io' B' a' w', K E' H' → RelE n gh g E' H' io' B' a' w' → Q .normal a' w') →
  wpOps P ops Q (List.range' k os.length) a w
 | items, [], k, pin, E, H, io, B, w, a, K, hc, hi, h, hpin, hk, hq => by
   simp only [PV, Option.some.injEq] at hc
   have : items = [] := by simpa using hc.symm
   subst this
   simp only [List.length_nil, List.range'_zero, wpOps]
   exact hq _ _ _ _ _ _ hk h
 | items, o :: os, k, pin, E, H, io, B, w, a, K, hc, hi, h, hpin, hk, hq => by
   simp only [PV, Option.bind_eq_some_iff, Option.some.injEq] at hc
   obtain ⟨ao, hao, aos', haos, hc⟩ := hc
   have ho : ops[k]? = some o := by simpa using hi 0 o (by simp)
   rw [List.length_cons, List.range'_succ, wpOps_cons]
   have hi' : ∀ i o', os[i]? = some o' → ops[k + 1 + i]? = some o' := fun i o' ho' => by
    have := hi (i + 1) o' (by simpa using ho')
    rw [show k + 1 + i = k + (i + 1) by omega]; exact this
   match items, hc, hk with
   | [], hc, _ => simp at hc
   | (.op, o2) :: items, hc, hk =>
     simp only [List.map_cons, List.cons.injEq] at hc
     obtain ⟨rfl, rfl⟩ := hc
     obtain ⟨hp, hk⟩ := hk
     rw [(KN hao).1] at hp
     refine TE h hg ho hao hk ?_
     rintro E' H' io' B' a' w' hK hR ⟨v, rfl⟩
     exact Wa hg items os (k + 1) pin haos hi' hR (hpin.put hp) hK hq
   | (.back p, o2) :: items, hc, hk =>
     simp only [List.map_cons, List.cons.injEq] at hc
     obtain ⟨rfl, rfl⟩ := hc
     obtain ⟨hp, hk⟩ := hk
     rw [(KN hao).1] at hp
     refine TE h hg ho hao hk ?_
     rintro E' H' io' B' a' w' ⟨d, u, id, i, es, sz', k', ys, hpe, _, hl, he, hls, hk', hne, hK⟩ hR ⟨v, rfl⟩
     obtain ⟨hd, hv⟩ := (hpin.put (v := v) hp) d u hpe
     obtain ⟨io2, B2, hR2⟩ := fH (p := p) hR hd hv hl he hls hk' hne
     exact Wa hg items os (k + 1) none haos hi' hR2 (fun d u e => by cases e) hK hq
   | (.take, o2) :: items, hc, hk =>
     simp only [List.map_cons, List.cons.injEq] at hc
     obtain ⟨rfl, rfl⟩ := hc
     obtain ⟨d, p, id, i, es, sz', xs, rfl, hpE, hl, he, hK⟩ := hk
     obtain ⟨c1, c2, _⟩ := KN hao
     have hgd : o.guard = none := by
      simp only [F3, Option.bind_eq_some_iff] at hao
      obtain ⟨kx, _, hao⟩ := hao
      split at hao
      case isFalse => cases hao
      split at hao
      ·rename_i hg2; exact hg2
      ·simp only [Option.bind_eq_some_iff] at hao
       obtain ⟨s, _, hao⟩ := hao
       split at hao
       ·simp at hao
       ·cases hao
     unfold wpOp
     simp only [ho]
     have hw : Region.wanted o (yielded ops a.tmps) = true := by simp [Region.wanted, hgd]
     rw [if_pos hw]
     refine .inl (fG h hg hao hpE hl he ?_)
     intro u io' B' w' hR
     refine Wa hg items os (k + 1) (some (d, u)) haos hi' hR ?_ (hK u) hq
     intro d' u' e
     cases e
     have hd : d < n := c2 d c1.symm
     refine ⟨hd, ?_⟩
     have hsz := h.size
     have hlt : d < a.tmps.size := by omega
     simp [Act.put, Array.getD, hlt]
end
end Go.Proofs.Dev
