/- Contracts of the functions of the program over slots and rows, each proved against the program itself; no condition beyond those that each theorem names. -/
import Derived.WalkKit
set_option linter.unusedSimpArgs false
set_option linter.unusedVariables false
set_option maxRecDepth 100000
namespace Go.Proofs.Dev
theorem orB {a b c d : Prop} (f : a → c) (g : b → d) (h : a ∨ b) : c ∨ d := h.elim (fun x => .inl (f x)) fun x => .inr (g x)
theorem orR {a b c : Prop} (g : b → c) (h : a ∨ b) : a ∨ c := h.elim .inl fun x => .inr (g x)
inductive AV where
 | bot
 | v (x : Value)
 | sl (c sz : Nat) (es : List AV)
 | vp (c : Nat) (cs : List AV) (o : Nat)
 | ls (sz id off n : Nat)
 | lw (sz id off n : Nat)
 | lp (sz id i o : Nat)
 | os (sz : Nat) (es : List AV)
 | op (cs : List AV)
 | fn (f : Nat) (cs : List AV)
 | agg (cs : List AV)
 | tup (cs : List AV)
 deriving Inhabited
def Ab : AV → List AV
 | .agg cs => cs
 | a => [a]
def Ak : List AV → List AV
 | [] => []
 | e :: es => Ab e ++ Ak es
def Sized (sz : Nat) (es : List AV) : Prop := ∀ e ∈ es, (Ab e).length = sz
theorem WP (a b : List AV) : SizeOf.sizeOf (a ++ b) + 1 = SizeOf.sizeOf a + SizeOf.sizeOf b := by
 induction a with
 | nil => simp; omega
 | cons x xs ih => simp; omega
theorem JB (es : List AV) : SizeOf.sizeOf (Ak es) ≤ SizeOf.sizeOf es := by
 induction es with
 | nil => simp [Ak]
 | cons e es ih =>
   have h := WP (Ab e) (Ak es)
   have h2 : SizeOf.sizeOf (Ab e) ≤ SizeOf.sizeOf e + 2 := by
    cases e <;> simp [Ab] <;> omega
   have h3 : SizeOf.sizeOf (Ab e ++ Ak es) ≤ SizeOf.sizeOf (e :: es) := by simp; omega
   simpa [Ak] using h3
structure Ctx where
 w : World
 bad : Nat → Nat → Prop
 io : Nat → Option (Nat × Nat)
 n : Nat
def Ctx.at (C : Ctx) (c : Nat) : Ctx := { w := C.w, bad := fun d x => d = c → C.bad c x, io := fun _ => none, n := 0 }
def Cells (w : World) (b p : Nat) (us : List Value) : Prop := ∀ j u, us[j]? = some u → w.cell? ⟨b, p + j, none⟩ = some u
def Ns (w : World) (b p k : Nat) : Prop := ∀ j, j < k → (∃ u, w.cell? ⟨b, p + j, none⟩ = some u) ∧ w.frozen? ⟨b, p + j, none⟩ = false
mutual
def R (C : Ctx) : AV → List Nat → Value → Prop
 | .bot, S, _ => S = []
 | .v x, S, u => S = [] ∧ u = x
 | .sl c sz es, S, u => S = [] ∧ ∃ a cap, u = .slice a es.length cap ∧ es.length ≤ cap ∧ (es = [] ∨ ∃ b p us, a = some ⟨b, p, none⟩ ∧
   b < C.w.heap.size ∧ ¬ C.bad c b ∧ Cells C.w b p us ∧ Sized sz es ∧ RL (C.at c) (Ak es) [] us)
 | .vp c cs o, S, u => S = [] ∧ ∃ b p us, u = .pointer (some ⟨b, p + o, none⟩) ∧ b < C.w.heap.size ∧ ¬ C.bad c b ∧ Cells C.w b p us ∧ RL (C.at c) cs [] us
 | .ls sz id off n, S, u => S = [] ∧ id < C.n ∧ ∃ a cap, u = .slice a n cap ∧ n ≤ cap ∧ ((cap = 0 ∧ C.io id = none) ∨ 0 < cap ∧ ∃ b p, C.io id = some (b, p) ∧ a = some ⟨b, p + off * sz, none⟩ ∧ Ns C.w b (p + off * sz) (cap * sz))
 | .lw sz id off n, S, u => S = [] ∧ ∃ a cap, u = .slice a n cap ∧ n ≤ cap ∧ (cap = 0 ∨ 0 < cap ∧ ∃ b p, C.io id = some (b, p) ∧ a = some ⟨b, p + off * sz, none⟩ ∧ Ns C.w b (p + off * sz) (cap * sz))
 | .lp sz id i o, S, u => S = [] ∧ ∃ b p, C.io id = some (b, p) ∧ u = .pointer (some ⟨b, p + i * sz + o, none⟩)
 | .os sz es, S, u => ∃ a cap, u = .slice a es.length cap ∧ es.length ≤ cap ∧ ((cap = 0 ∧ S = []) ∨ 0 < cap ∧ ∃ b p us S', S = b :: S' ∧ a = some ⟨b, p, none⟩ ∧
   b < C.w.heap.size ∧ Ns C.w b p (cap * sz) ∧ Cells C.w b p us ∧ Sized sz es ∧ RL (C.at 0) (Ak es) S' us)
 | .op cs, S, u => ∃ b p us S', S = b :: S' ∧ u = .pointer (some ⟨b, p, none⟩) ∧ b < C.w.heap.size ∧ Ns C.w b p cs.length ∧ Cells C.w b p us ∧ RL (C.at 0) cs S' us
 | .fn f cs, S, u => ∃ us, u = .func (.func f) #[] us.toArray ∧ RL C cs S us
 | .agg cs, S, u => ∃ us, u = .agg us.toArray ∧ RL C cs S us
 | .tup cs, S, u => ∃ us, u = .tuple us.toArray ∧ RL C cs S us
termination_by a => SizeOf.sizeOf a
decreasing_by all_goals (first | (have := JB es; simp; omega) | (simp; done) | (simp; omega))
def RL (C : Ctx) : List AV → List Nat → List Value → Prop
 | [], S, us => S = [] ∧ us = []
 | a :: as, S, us => ∃ S1 S2 u us', S = S1 ++ S2 ∧ us = u :: us' ∧ R C a S1 u ∧ RL C as S2 us'
termination_by a => SizeOf.sizeOf a
decreasing_by all_goals (simp; omega)
end
structure Step (C C' : Ctx) : Prop where
 size : C.w.heap.size ≤ C'.w.heap.size
 bad : ∀ c b, b < C.w.heap.size → ¬ C.bad c b → ¬ C'.bad c b ∧ C'.w.heap[b]? = C.w.heap[b]?
 io : ∀ id x, C.io id = some x → C'.io id = some x
 n : C.n ≤ C'.n
 ion : ∀ id, id < C.n → C'.io id = C.io id
 room : ∀ b p k, Ns C.w b p k → Ns C'.w b p k
theorem Step.at {C C' : Ctx} (h : Step C C') (c : Nat) : Step (C.at c) (C'.at c) := by
 refine ⟨h.size, ?_, fun _ _ h => by simp [Ctx.at] at h, Nat.le_refl _, fun _ _ => rfl, h.room⟩
 intro d b hb hbad
 simp only [Ctx.at, Classical.not_imp] at hbad ⊢
 obtain ⟨h1, h2⟩ := h.bad c b hb hbad.2
 exact ⟨⟨hbad.1, h1⟩, h2⟩
theorem Cells.of_block {w w' : World} {b p : Nat} {us : List Value} (h : Cells w b p us) (hb : w'.heap[b]? = w.heap[b]?) : Cells w' b p us :=
 fun j u hj => by rw [World.cell?_of_block (w := w) (a := ⟨b, p + j, none⟩) hb]; exact h j u hj
mutual
theorem R.step {C C' : Ctx} (h : Step C C') : ∀ (a : AV) (S : List Nat) (u : Value), (∀ x ∈ S, C'.w.heap[x]? = C.w.heap[x]?) → R C a S u → R C' a S u
 | .bot, S, u, _, hr => by rw [R] at *; exact hr
 | .v x, S, u, _, hr => by rw [R] at *; exact hr
 | .sl c sz es, S, u, _, hr => by
   rw [R] at *
   obtain ⟨hS, a, cap, hu, hc, hr⟩ := hr
   refine ⟨hS, a, cap, hu, hc, orR ?_ hr⟩
   rintro ⟨b, p, us, ha, hb, hbad, hcells, hsz, hrl⟩
   obtain ⟨h1, h2⟩ := h.bad c b hb hbad
   exact ⟨b, p, us, ha, Nat.lt_of_lt_of_le hb h.size, h1, hcells.of_block h2, hsz, RL.step (h.at c) _ _ _ (by simp) hrl⟩
 | .vp c cs o, S, u, _, hr => by
   rw [R] at *
   obtain ⟨hS, b, p, us, hu, hb, hbad, hcells, hrl⟩ := hr
   obtain ⟨h1, h2⟩ := h.bad c b hb hbad
   exact ⟨hS, b, p, us, hu, Nat.lt_of_lt_of_le hb h.size, h1, hcells.of_block h2, RL.step (h.at c) _ _ _ (by simp) hrl⟩
 | .ls sz id off n, S, u, _, hr => by
   rw [R] at *
   obtain ⟨hS, hid, a, cap, hu, hc, hr⟩ := hr
   refine ⟨hS, Nat.lt_of_lt_of_le hid h.n, a, cap, hu, hc, orB (fun hh => ⟨hh.1, by rw [h.ion _ hid]; exact hh.2⟩) ?_ hr⟩
   rintro ⟨h0, b, p, hi, ha, hroom⟩
   exact ⟨h0, b, p, h.io _ _ hi, ha, h.room _ _ _ hroom⟩
 | .lw sz id off n, S, u, _, hr => by
   rw [R] at *
   obtain ⟨hS, a, cap, hu, hc, hr⟩ := hr
   refine ⟨hS, a, cap, hu, hc, orR ?_ hr⟩
   rintro ⟨h0, b, p, hi, ha, hroom⟩
   exact ⟨h0, b, p, h.io _ _ hi, ha, h.room _ _ _ hroom⟩
 | .lp sz id i o, S, u, _, hr => by
   rw [R] at *
   obtain ⟨hS, b, p, hi, hu⟩ := hr
   exact ⟨hS, b, p, h.io _ _ hi, hu⟩
 | .os sz es, S, u, hs, hr => by
   rw [R] at *
   obtain ⟨a, cap, hu, hc, hr⟩ := hr
   refine ⟨a, cap, hu, hc, orR ?_ hr⟩
   rintro ⟨h0, b, p, us, S', rfl, ha, hb, hroom, hcells, hsz, hrl⟩
   exact ⟨h0, b, p, us, S', rfl, ha, Nat.lt_of_lt_of_le hb h.size, h.room _ _ _ hroom, hcells.of_block (hs b (by simp)), hsz, RL.step (h.at 0) _ _ _ (fun x hx => hs x (by simp [hx])) hrl⟩
 | .op cs, S, u, hs, hr => by
   rw [R] at *
   obtain ⟨b, p, us, S', rfl, hu, hb, hroom, hcells, hrl⟩ := hr
   exact ⟨b, p, us, S', rfl, hu, Nat.lt_of_lt_of_le hb h.size, h.room _ _ _ hroom, hcells.of_block (hs b (by simp)), RL.step (h.at 0) _ _ _ (fun x hx => hs x (by simp [hx])) hrl⟩
 | .fn f cs, S, u, hs, hr => by
   rw [R] at *
   obtain ⟨us, hu, hrl⟩ := hr
   exact ⟨us, hu, RL.step h _ _ _ hs hrl⟩
 | .agg cs, S, u, hs, hr => by
   rw [R] at *
   obtain ⟨us, hu, hrl⟩ := hr
   exact ⟨us, hu, RL.step h _ _ _ hs hrl⟩
 | .tup cs, S, u, hs, hr => by
   rw [R] at *
   obtain ⟨us, hu, hrl⟩ := hr
   exact ⟨us, hu, RL.step h _ _ _ hs hrl⟩
termination_by a => SizeOf.sizeOf a
decreasing_by all_goals (first | (have := JB es; simp; omega) | (simp; done) | (simp; omega))
theorem RL.step {C C' : Ctx} (h : Step C C') : ∀ (as : List AV) (S : List Nat) (us : List Value), (∀ x ∈ S, C'.w.heap[x]? = C.w.heap[x]?) → RL C as S us → RL C' as S us
 | [], S, us, _, hr => by rw [RL] at *; exact hr
 | a :: as, S, us, hs, hr => by
   rw [RL] at *
   obtain ⟨S1, S2, u, us', rfl, rfl, h1, h2⟩ := hr
   exact ⟨S1, S2, u, us', rfl, rfl, R.step h _ _ _ (fun x hx => hs x (by simp [hx])) h1, RL.step h _ _ _ (fun x hx => hs x (by simp [hx])) h2⟩
termination_by a => SizeOf.sizeOf a
decreasing_by all_goals (simp; omega)
end
theorem RL.length {C : Ctx} : ∀ {as : List AV} {S : List Nat} {us : List Value}, RL C as S us → us.length = as.length
 | [], S, us, h => by rw [RL] at h; simp [h.2]
 | a :: as, S, us, h => by
   rw [RL] at h
   obtain ⟨S1, S2, u, us', rfl, rfl, h1, h2⟩ := h
   simp [h2.length]
theorem RL.append {C : Ctx} : ∀ {as : List AV} {S : List Nat} {us : List Value} {bs : List AV} {T : List Nat} {vs : List Value}, RL C as S us → RL C bs T vs → RL C (as ++ bs) (S ++ T) (us ++ vs)
 | [], S, us, bs, T, vs, h, h' => by rw [RL] at h; obtain ⟨rfl, rfl⟩ := h; simpa using h'
 | a :: as, S, us, bs, T, vs, h, h' => by
   rw [RL] at h
   obtain ⟨S1, S2, u, us', rfl, rfl, h1, h2⟩ := h
   show RL C (a :: (as ++ bs)) _ _
   rw [RL]
   exact ⟨S1, S2 ++ T, u, us' ++ vs, by simp, by simp, h1, h2.append h'⟩
theorem RL.split {C : Ctx} : ∀ {as bs : List AV} {S : List Nat} {us : List Value}, RL C (as ++ bs) S us →
  ∃ S1 S2 us1 us2, S = S1 ++ S2 ∧ us = us1 ++ us2 ∧ RL C as S1 us1 ∧ RL C bs S2 us2
 | [], bs, S, us, h => ⟨[], S, [], us, rfl, rfl, by rw [RL]; exact ⟨rfl, rfl⟩, h⟩
 | a :: as, bs, S, us, h => by
   have h' : RL C (a :: (as ++ bs)) S us := h
   rw [RL] at h'
   obtain ⟨S1, S2, u, us', rfl, rfl, h1, h2⟩ := h'
   obtain ⟨S3, S4, us1, us2, rfl, rfl, h3, h4⟩ := h2.split
   refine ⟨S1 ++ S3, S4, u :: us1, us2, by simp, by simp, ?_, h4⟩
   rw [RL]
   exact ⟨S1, S3, u, us1, rfl, rfl, h1, h3⟩
theorem RL.get {C : Ctx} : ∀ {as : List AV} {us : List Value} {S : List Nat} {i : Nat} {a : AV}, RL C as S us → as[i]? = some a →
  ∃ S1 S2 S3 u, S = S1 ++ (S2 ++ S3) ∧ us[i]? = some u ∧ R C a S2 u
 | [], us, S, i, a, h, hi => by simp at hi
 | b :: as, us, S, i, a, h, hi => by
   rw [RL] at h
   obtain ⟨S1, S2, u, us', rfl, rfl, h1, h2⟩ := h
   cases i with
   | zero => simp at hi; subst hi; exact ⟨[], S1, S2, u, rfl, rfl, h1⟩
   | succ i =>
     obtain ⟨T1, T2, T3, v, rfl, hv, hr⟩ := h2.get (i := i) (by simpa using hi)
     exact ⟨S1 ++ T1, T2, T3, v, by simp, by simpa using hv, hr⟩
theorem RL.set {C : Ctx} : ∀ {as : List AV} {us : List Value} {S : List Nat} {i : Nat} {a a' : AV} {u' : Value} {S' : List Nat}, RL C as S us → as[i]? = some a → R C a' S' u' →
  ∃ S1 S2 S3, S = S1 ++ (S2 ++ S3) ∧ RL C (as.set i a') (S1 ++ (S' ++ S3)) (us.set i u')
 | [], us, S, i, a, a', u', S', h, hi, _ => by simp at hi
 | b :: as, us, S, i, a, a', u', S', h, hi, hr => by
   rw [RL] at h
   obtain ⟨S1, S2, u, us', rfl, rfl, h1, h2⟩ := h
   cases i with
   | zero =>
     refine ⟨[], S1, S2, rfl, ?_⟩
     show RL C (a' :: as) _ (u' :: us')
     rw [RL]
     exact ⟨S', S2, u', us', rfl, rfl, hr, h2⟩
   | succ i =>
     obtain ⟨T1, T2, T3, rfl, hr'⟩ := h2.set (i := i) (by simpa using hi) hr
     refine ⟨S1 ++ T1, T2, T3, by simp, ?_⟩
     show RL C (b :: as.set i a') _ (u :: us'.set i u')
     rw [RL]
     exact ⟨S1, T1 ++ (S' ++ T3), u, us'.set i u', by simp, rfl, h1, hr'⟩
def gvs : List (Nat × AV) := [(0, .vp 0 [.sl 0 1 [.v (.string ⟨#[108, 97, 121]⟩), .v (.string ⟨#[108, 105, 102, 116]⟩), .v (.string ⟨#[102, 108, 105, 112]⟩), .v (.string ⟨#[102, 111, 114, 99, 101]⟩), .v (.string ⟨#[98, 97, 99, 107]⟩)]] 0)]
def gAs : List AV := gvs.map (·.2)
def gUs : List Value := gvs.map fun p => .pointer (some ⟨p.1, 0, none⟩)
def Zp (w : World) (S : List Nat) (forb : Nat → Prop) : Ctx := ⟨w, fun c x => match c with | 0 => x ∈ S ∨ forb x | _ => True, fun _ => none, 0⟩
def oN (v : Value) : Prop := ∃ m : Int, v = .int .i64 m
def iD (v : Value) : Prop := v = .nilIface ∨ ∃ te pe, v = .iface te pe
def gps : List (Nat × (Value → Prop)) := [(1, oN), (2, iD), (3, iD)]
def GP (w : World) (S : List Nat) (forb : Nat → Prop) : Prop := ∀ p ∈ gps, (p.1 ∉ S ∧ ¬ forb p.1) ∧ ∃ u, w.cell? ⟨p.1, 0, none⟩ = some u ∧ p.2 u
def GB (w : World) (S : List Nat) (forb : Nat → Prop) : Prop := RL (Zp w S forb) gAs [] gUs ∧ GP w S forb
theorem gH {C : Ctx} {α : Type} {f : α → AV} {g : α → Value} : ∀ {L : List α}, RL C (L.map f) [] (L.map g) → ∀ x ∈ L, R C (f x) [] (g x)
 | [], _, x, hx => by cases hx
 | y :: ys, h, x, hx => by
   have h' : RL C (f y :: ys.map f) [] (g y :: ys.map g) := h
   rw [RL] at h'
   obtain ⟨S1, S2, u, us', hS, hu, h1, h2⟩ := h'
   obtain ⟨rfl, rfl⟩ : S1 = [] ∧ S2 = [] := by simpa using hS.symm
   simp only [List.cons.injEq] at hu
   obtain ⟨rfl, rfl⟩ := hu
   rcases List.mem_cons.1 hx with rfl | hx
   ·exact h1
   ·exact gH h2 x hx
theorem GB.mono {w : World} {S S' : List Nat} {forb forb' : Nat → Prop} (h : GB w S forb) (hs : ∀ x, x ∈ S' ∨ forb' x → x ∈ S ∨ forb x) : GB w S' forb' := by
 refine ⟨RL.step (C := Zp w S forb) (C' := Zp w S' forb') ⟨Nat.le_refl _, ?_, fun _ _ hx => by simp [Zp] at hx, Nat.le_refl _, fun _ _ => rfl, fun _ _ _ hr => hr⟩ gAs [] gUs (by simp) h.1, ?_⟩
 ·intro c b _ hb
  refine ⟨?_, rfl⟩
  match c, hb with
  | 0, hb => exact fun hx => hb (hs b hx)
  | c + 1, hb => exact absurd trivial hb
 ·intro p hp
  obtain ⟨⟨h1, h2⟩, h3⟩ := h.2 p hp
  refine ⟨⟨fun hx => ?_, fun hx => ?_⟩, h3⟩
  ·rcases hs _ (.inl hx) with hy | hy
   ·exact h1 hy
   ·exact h2 hy
  ·rcases hs _ (.inr hx) with hy | hy
   ·exact h1 hy
   ·exact h2 hy
theorem GB.cell {w : World} {S : List Nat} {forb : Nat → Prop} (h : GB w S forb) {g : Nat} {p : Value → Prop} (hp : (g, p) ∈ gps) : ∃ u, w.cell? ⟨g, 0, none⟩ = some u ∧ p u := (h.2 _ hp).2
inductive Row where
 | box (cs : List AV)
 | arr (sz : Nat) (es : List AV)
 | pool (us : List Value) (es : List AV)
 deriving Inhabited
abbrev AH := List (Option Row)
def Live (H : AH) (id : Nat) (r : Row) : Prop := H[id]? = some (some r)
structure Env where
 w0 : World
 lent : List Nat
 forb : Nat → Prop
def bp (H : AH) (io : Nat → Option (Nat × Nat)) (B : Nat → List Nat) (forb : Nat → Prop) : Nat → Nat → Prop
 | 0, x => (∃ id, x ∈ B id) ∨ forb x
 | 1, x => ∃ id, x ∈ B id
 | _ + 2, x => ∃ id p r, io id = some (x, p) ∧ Live H id r
def bi (C : Ctx) (row : Row) (Bs : List Nat) (place : Option (Nat × Nat)) : Prop :=
 match row with
 | .box cs => ∃ b p us, place = some (b, p) ∧ Bs = [b] ∧ b < C.w.heap.size ∧ Ns C.w b p cs.length ∧ Cells C.w b p us ∧ RL C cs [] us
 | .arr sz es => (es = [] ∧ Bs = [] ∧ place = none) ∨ ∃ b p us S, place = some (b, p) ∧ Bs = b :: S ∧ b < C.w.heap.size ∧ Ns C.w b p (es.length * sz) ∧
   Cells C.w b p us ∧ Sized sz es ∧ RL (C.at 0) (Ak es) S us
 | .pool us es => place = none ∧ (∀ x ∈ Bs, x < C.w.heap.size) ∧ RL (C.at 0) es Bs us
def ctx (g : Env) (H : AH) (io : Nat → Option (Nat × Nat)) (B : Nat → List Nat) (w : World) : Ctx := ⟨w, bp H io B g.forb, io, H.length⟩
structure Kept (base : Nat) (S : List Nat) (w w' : World) : Prop where
 os : w'.os = w.os
 tape : w'.tape = w.tape
 output : w'.output = w.output
 size : w.heap.size ≤ w'.heap.size
 block : ∀ k, k < base → k ∉ S → w'.heap[k]? = w.heap[k]?
 room : ∀ b p k, Ns w b p k → Ns w' b p k
theorem Kept.refl (base : Nat) (S : List Nat) (w : World) : Kept base S w w := ⟨rfl, rfl, rfl, Nat.le_refl _, fun _ _ _ => rfl, fun _ _ _ h => h⟩
theorem Kept.trans {base : Nat} {S : List Nat} {a b c : World} (h : Kept base S a b) (k : Kept base S b c) : Kept base S a c :=
 ⟨k.os.trans h.os, k.tape.trans h.tape, k.output.trans h.output, Nat.le_trans h.size k.size,
  fun i hi hn => (k.block i hi hn).trans (h.block i hi hn), fun _ _ _ hr => k.room _ _ _ (h.room _ _ _ hr)⟩
structure Rel (g : Env) (T : List AV) (H : AH) (io : Nat → Option (Nat × Nat)) (B : Nat → List Nat) (tmps : Array Value) (w : World) : Prop where
 size : tmps.size = T.length
 tmps : ∀ (i : Nat) (av : AV), T[i]? = some av → ∃ u, tmps[i]? = some u ∧ R (ctx g H io B w) av [] u
 rows : ∀ id row, Live H id row → bi (ctx g H io B w) row (B id) (io id)
 dead : ∀ id, (∀ row, ¬ Live H id row) → B id = []
 io : ∀ id, H.length ≤ id → io id = none
 nd : ∀ id, (B id).Nodup
 dj : ∀ i j x, x ∈ B i → x ∈ B j → i = j
 lt : ∀ id x, x ∈ B id → x < w.heap.size
 own : ∀ id x, x ∈ B id → g.w0.heap.size ≤ x ∨ x ∈ g.lent
 kept : Kept g.w0.heap.size g.lent g.w0 w
 gb : GB g.w0 g.lent g.forb
section
variable {g : Env} {T : List AV} {H : AH} {io : Nat → Option (Nat × Nat)} {B : Nat → List Nat} {tmps : Array Value} {w : World}
theorem Rel.get (h : Rel g T H io B tmps w) (i : Nat) : ∃ u, tmps.getD i undef = u ∧ R (ctx g H io B w) (T.getD i .bot) [] u := by
 by_cases hi : i < T.length
 ·obtain ⟨u, hu, hr⟩ := h.tmps i T[i] (by simp [hi])
  refine ⟨u, ?_, ?_⟩
  ·simp [hu]
  ·simpa [List.getD, hi] using hr
 ·refine ⟨_, rfl, ?_⟩
  have : T[i]? = none := by simp; omega
  simp [List.getD, this, R]
def ki (T : List AV) (dst : Option Nat) (av : AV) : List AV := match dst with | some d => T.set d av | none => T
def eR (tmps : Array Value) (dst : Option Nat) (u : Value) : Array Value := match dst with | some d => tmps.setIfInBounds d u | none => tmps
theorem Rel.put (h : Rel g T H io B tmps w) (dst : Option Nat) {av : AV} {u : Value} (hr : R (ctx g H io B w) av [] u) : Rel g (ki T dst av) H io B (eR tmps dst u) w := by
 cases dst with
 | none => exact h
 | some d =>
   refine { h with size := by simp [ki, eR, h.size], tmps := ?_ }
   intro i a hi
   simp only [ki, eR, List.getElem?_set, Array.getElem?_setIfInBounds] at hi ⊢
   by_cases hd : d = i
   ·subst hd
    have hs := h.size
    by_cases hl : d < T.length
    ·rw [if_pos rfl, if_pos hl] at hi
     rw [if_pos rfl, if_pos (by omega)]
     simp at hi; subst hi
     exact ⟨u, rfl, hr⟩
    ·rw [if_pos rfl, if_neg hl] at hi; simp at hi
   ·rw [if_neg hd] at hi ⊢
    exact h.tmps i a hi
theorem Rel.weaken (h : Rel g T H io B tmps w) {T' : List AV} (hl : T'.length = T.length) (hT : ∀ (i : Nat) (av : AV), T'[i]? = some av → av = .bot ∨ T[i]? = some av) : Rel g T' H io B tmps w := by
 refine { h with size := by rw [h.size, hl], tmps := ?_ }
 intro i av hi
 rcases hT i av hi with rfl | h'
 ·have : i < T'.length := by
   rcases Nat.lt_or_ge i T'.length with h1 | h1
   ·exact h1
   ·simp [h1] at hi
  have hs := h.size
  exact ⟨tmps[i]'(by omega), by simp, by simp [R]⟩
 ·exact h.tmps i av h'
theorem Rel.row_mem (h : Rel g T H io B tmps w) {id x p : Nat} {r : Row} (hi : io id = some (x, p)) (hl : Live H id r) : x ∈ B id := by
 have := h.rows id r hl
 cases r with
 | box cs => obtain ⟨b, q, us, h1, h2, _⟩ := this; rw [hi] at h1; cases h1; rw [h2]; simp
 | arr sz es =>
   rcases this with ⟨_, _, h1⟩ | ⟨b, q, us, S, h1, h2, _⟩
   ·rw [hi] at h1; cases h1
   ·rw [hi] at h1; cases h1; rw [h2]; simp
 | pool us es => rw [hi] at this; cases this.1
theorem Rel.mkStep (h : Rel g T H io B tmps w) {H' : AH} {io' : Nat → Option (Nat × Nat)} {B' : Nat → List Nat} {w' : World}
  (hs : w.heap.size ≤ w'.heap.size)
  (hB : ∀ id x, x ∈ B' id → (∃ j, x ∈ B j) ∨ w.heap.size ≤ x)
  (hM : ∀ id x p r, io' id = some (x, p) → Live H' id r → (∃ j q s, io j = some (x, q) ∧ Live H j s) ∨ w.heap.size ≤ x)
  (hn : H.length ≤ H'.length) (hio : ∀ id, id < H.length → io' id = io id)
  (hw : ∀ b, b < w.heap.size → (∀ id p r, io id = some (b, p) → ¬ Live H id r) → w'.heap[b]? = w.heap[b]?)
  (hroom : ∀ b p k, Ns w b p k → Ns w' b p k) : Step (ctx g H io B w) (ctx g H' io' B' w') := by
 refine ⟨hs, ?_, ?_, hn, hio, hroom⟩
 case refine_2 =>
  intro id x hx
  have hlt : id < H.length := by
   rcases Nat.lt_or_ge id H.length with h1 | h1
   ·exact h1
   ·change io id = some x at hx; rw [h.io id h1] at hx; cases hx
  change io' id = some x
  rw [hio id hlt]; exact hx
 intro c b hb hbad
 change b < w.heap.size at hb
 have key : (¬ ∃ j, b ∈ B j) → ∀ id p r, io id = some (b, p) → ¬ Live H id r := fun hn id p r hi hl => hn ⟨id, h.row_mem hi hl⟩
 match c, hbad with
 | 0, hbad =>
   simp only [ctx, bp, not_or] at hbad ⊢
   refine ⟨⟨?_, hbad.2⟩, hw b hb (key hbad.1)⟩
   rintro ⟨id, hx⟩
   rcases hB id b hx with h1 | h1
   ·exact hbad.1 h1
   ·omega
 | 1, hbad =>
   simp only [ctx, bp] at hbad ⊢
   refine ⟨?_, hw b hb (key hbad)⟩
   rintro ⟨id, hx⟩
   rcases hB id b hx with h1 | h1
   ·exact hbad h1
   ·omega
 | c + 2, hbad =>
   simp only [ctx, bp] at hbad ⊢
   refine ⟨?_, hw b hb (fun id p r hi hl => hbad ⟨id, p, r, hi, hl⟩)⟩
   rintro ⟨id, p, r, hi, hl⟩
   rcases hM id b p r hi hl with h1 | h1
   ·exact hbad h1
   ·omega
theorem Rel.heap (h : Rel g T H io B tmps w) {w' : World} (hh : w'.heap = w.heap) (ho : w'.os = w.os) (ht : w'.tape = w.tape) (hu : w'.output = w.output) : Rel g T H io B tmps w' ∧ Step (ctx g H io B w) (ctx g H io B w') := by
 have hroom : ∀ b p k, Ns w b p k → Ns w' b p k := fun b p k hr j hj => by
  have e : w'.cell? ⟨b, p + j, none⟩ = w.cell? ⟨b, p + j, none⟩ := World.cell?_of_block (by rw [hh])
  have e2 : w'.frozen? ⟨b, p + j, none⟩ = w.frozen? ⟨b, p + j, none⟩ := World.frozen?_of_block (by rw [hh])
  rw [e, e2]; exact hr j hj
 have hst : Step (ctx g H io B w) (ctx g H io B w') := h.mkStep (by rw [hh]; exact Nat.le_refl _) (fun id x hx => .inl ⟨id, hx⟩) (fun id x p r h1 h2 => .inl ⟨id, p, r, h1, h2⟩)
  (Nat.le_refl _) (fun _ _ => rfl) (fun b _ _ => by rw [hh]) hroom
 refine ⟨{ h with tmps := ?_, rows := ?_, lt := ?_, kept := ?_ }, hst⟩
 ·intro i av hi
  obtain ⟨u, hu, hr⟩ := h.tmps i av hi
  exact ⟨u, hu, R.step hst _ _ _ (by simp) hr⟩
 ·intro id row hl
  have := h.rows id row hl
  cases row with
  | box cs =>
    obtain ⟨b, p, us, h1, h2, h3, h4, h5, h6⟩ := this
    exact ⟨b, p, us, h1, h2, by simpa [ctx, hh] using h3, hroom _ _ _ h4, h5.of_block (by simp [ctx, hh]), RL.step hst _ _ _ (by simp) h6⟩
  | arr sz es =>
    refine orR ?_ this
    rintro ⟨b, p, us, S, h1, h2, h3, h4, h5, h6, h7⟩
    exact ⟨b, p, us, S, h1, h2, by simpa [ctx, hh] using h3, hroom _ _ _ h4, h5.of_block (by simp [ctx, hh]), h6, RL.step (hst.at 0) _ _ _ (fun x _ => by simp [ctx, Ctx.at, hh]) h7⟩
  | pool us es =>
    obtain ⟨h1, h2, h3⟩ := this
    exact ⟨h1, fun x hx => by simpa [ctx, hh] using h2 x hx, RL.step (hst.at 0) _ _ _ (fun x _ => by simp [ctx, Ctx.at, hh]) h3⟩
 ·intro id x hx; rw [hh]; exact h.lt id x hx
 ·exact h.kept.trans ⟨ho, ht, hu, by rw [hh]; exact Nat.le_refl _, fun k _ _ => by rw [hh], hroom⟩
theorem Rel.glb (h : Rel g T H io B tmps w) : RL (ctx g H io B w) gAs [] gUs := by
 refine RL.step (C := Zp g.w0 g.lent g.forb) (C' := ctx g H io B w) ⟨h.kept.size, ?_, fun _ _ hx => by simp [Zp] at hx, Nat.zero_le _, fun _ hx => absurd hx (Nat.not_lt_zero _), h.kept.room⟩ gAs [] gUs (by simp) h.gb.1
 intro c b hb hbad
 match c, hbad with
 | 0, hbad =>
   have hbad' : ¬ (b ∈ g.lent ∨ g.forb b) := hbad
   rw [not_or] at hbad'
   refine ⟨?_, h.kept.block b hb hbad'.1⟩
   rintro (⟨id, hx⟩ | hx)
   ·rcases h.own id b hx with h1 | h1
    ·exact absurd hb (Nat.not_lt.2 h1)
    ·exact hbad'.1 h1
   ·exact hbad'.2 hx
 | c + 1, hbad => exact absurd trivial hbad
theorem Rel.gbAt (h : Rel g T H io B tmps w) {S : List Nat} {forb : Nat → Prop} (hS : ∀ x, x ∈ S ∨ forb x → (∃ id, x ∈ B id) ∨ g.forb x) : GB w S forb := by
 have key : ∀ b, b < g.w0.heap.size → ¬ (b ∈ g.lent ∨ g.forb b) → ¬ (b ∈ S ∨ forb b) := by
  intro b hb hbad hx
  rw [not_or] at hbad
  rcases hS b hx with ⟨id, hx⟩ | hx
  ·rcases h.own id b hx with h1 | h1
   ·exact absurd hb (Nat.not_lt.2 h1)
   ·exact hbad.1 h1
  ·exact hbad.2 hx
 refine ⟨RL.step (C := Zp g.w0 g.lent g.forb) (C' := Zp w S forb) ⟨h.kept.size, ?_, fun _ _ hx => by simp [Zp] at hx, Nat.zero_le _, fun _ hx => absurd hx (Nat.not_lt_zero _), h.kept.room⟩ gAs [] gUs (by simp) h.gb.1, ?_⟩
 ·intro c b hb hbad
  match c, hbad with
  | 0, hbad =>
    have hbad' : ¬ (b ∈ g.lent ∨ g.forb b) := hbad
    refine ⟨key b hb hbad', h.kept.block b hb fun hx => hbad' (.inl hx)⟩
  | c + 1, hbad => exact absurd trivial hbad
 ·intro p hp
  obtain ⟨⟨h1, h2⟩, u, h3, h4⟩ := h.gb.2 p hp
  have hlt : p.1 < g.w0.heap.size := block_lt_of_cell h3
  have hn := key p.1 hlt fun hx => hx.elim h1 h2
  rw [not_or] at hn
  exact ⟨hn, u, by rw [World.cell?_of_block (w := g.w0) (a := ⟨p.1, 0, none⟩) (h.kept.block p.1 hlt h1)]; exact h3, h4⟩
theorem K5 (w : World) (o : Obj) (i : Nat) (h : i < w.heap.size) : (w.alloc o).heap[i]? = w.heap[i]? := by
 show (w.heap.push o)[i]? = _
 rw [Array.getElem?_push, if_neg (by omega)]
theorem Vu {o : Obj} {b p k : Nat} (h : Ns w b p k) : Ns (w.alloc o) b p k := fun j hj => by
 obtain ⟨⟨u, hu⟩, hf⟩ := h j hj
 have hlt : b < w.heap.size := block_lt_of_cell hu
 have hb := K5 w o b hlt
 rw [World.cell?_of_block (w := w) (a := ⟨b, p + j, none⟩) hb, World.frozen?_of_block (w := w) (a := ⟨b, p + j, none⟩) hb]
 exact ⟨⟨u, hu⟩, hf⟩
end
def AG (ks : List Nat) (H : AH) : AH := ks.foldl (fun H k => H.set k none) H
theorem AW (ks : List Nat) : ∀ (H : AH), (AG ks H).length = H.length := by
 induction ks with
 | nil => intro H; rfl
 | cons k ks ih => intro H; show (AG ks (H.set k none)).length = _; rw [ih]; simp
theorem D1 (ks : List Nat) : ∀ (H : AH) (id : Nat) (r : Row), Live (AG ks H) id r ↔ id ∉ ks ∧ Live H id r := by
 induction ks with
 | nil => intro H id r; simp [AG]
 | cons k ks ih =>
   intro H id r
   show Live (AG ks (H.set k none)) id r ↔ _
   rw [ih]
   unfold Live
   rw [List.getElem?_set]
   by_cases hk : k = id
   ·subst hk; simp
   ·simp [hk]; intro _; exact fun h => fun h' => absurd h'.symm hk
theorem Live.lt {H : AH} {id : Nat} {r : Row} (h : Live H id r) : id < H.length := by
 rcases Nat.lt_or_ge id H.length with h1 | h1
 ·exact h1
 ·unfold Live at h; rw [List.getElem?_eq_none h1] at h; cases h
theorem Live.inj {H : AH} {id : Nat} {r s : Row} (h : Live H id r) (h' : Live H id s) : r = s := by
 unfold Live at *; rw [h] at h'; simpa using h'
theorem K6 {H : AH} {row : Row} {id : Nat} {r : Row} : Live (H ++ [some row]) id r ↔ (id = H.length ∧ r = row) ∨ (id < H.length ∧ Live H id r) := by
 unfold Live
 rcases Nat.lt_trichotomy id H.length with h1 | h1 | h1
 ·rw [List.getElem?_append_left h1]
  constructor
  ·exact fun h => .inr ⟨h1, h⟩
  ·rintro (⟨h2, _⟩ | ⟨_, h2⟩)
   ·omega
   ·exact h2
 ·subst h1; simp [eq_comm]
 ·rw [List.getElem?_append_right (by omega), List.getElem?_eq_none (by simp; omega)]
  simp only [reduceCtorEq, false_iff]
  rintro (⟨h2, _⟩ | ⟨h2, _⟩) <;> omega
section
variable {g : Env} {T : List AV} {H : AH} {io : Nat → Option (Nat × Nat)} {B : Nat → List Nat} {tmps : Array Value} {w : World}
theorem Rel.change (h : Rel g T H io B tmps w) {H' : AH} {io' : Nat → Option (Nat × Nat)} {B' : Nat → List Nat} {w' : World} (hst : Step (ctx g H io B w) (ctx g H' io' B' w'))
  (hrows : ∀ id r, Live H' id r → (Live H id r ∧ io' id = io id ∧ B' id = B id ∧ ∀ x ∈ B id, w'.heap[x]? = w.heap[x]?) ∨ bi (ctx g H' io' B' w') r (B' id) (io' id))
  (hdead : ∀ id, (∀ row, ¬ Live H' id row) → B' id = [])
  (hio : ∀ id, H'.length ≤ id → io' id = none)
  (hnd : ∀ id, (B' id).Nodup) (hdj : ∀ i j x, x ∈ B' i → x ∈ B' j → i = j) (hlt : ∀ id x, x ∈ B' id → x < w'.heap.size)
  (hown : ∀ id x, x ∈ B' id → g.w0.heap.size ≤ x ∨ x ∈ g.lent) (hkept : Kept g.w0.heap.size g.lent g.w0 w') : Rel g T H' io' B' tmps w' := by
 refine ⟨h.size, ?_, ?_, hdead, hio, hnd, hdj, hlt, hown, hkept, h.gb⟩
 ·intro i av hi
  obtain ⟨u, hu, hr⟩ := h.tmps i av hi
  exact ⟨u, hu, R.step hst _ _ _ (by simp) hr⟩
 ·intro id r hl
  rcases hrows id r hl with ⟨h1, h2, h3, h4⟩ | h1
  ·have := h.rows id r h1
   rw [h2, h3]
   cases r with
   | box cs =>
     obtain ⟨b, p, us, a1, a2, a3, a4, a5, a6⟩ := this
     exact ⟨b, p, us, a1, a2, Nat.lt_of_lt_of_le a3 hst.size, hst.room _ _ _ a4, a5.of_block (h4 b (by rw [a2]; simp)), RL.step hst _ _ _ (by simp) a6⟩
   | arr sz es =>
     refine orR ?_ this
     rintro ⟨b, p, us, S, a1, a2, a3, a4, a5, a6, a7⟩
     exact ⟨b, p, us, S, a1, a2, Nat.lt_of_lt_of_le a3 hst.size, hst.room _ _ _ a4, a5.of_block (h4 b (by rw [a2]; simp)), a6, RL.step (hst.at 0) _ _ _ (fun x hx => h4 x (by rw [a2]; simp [hx])) a7⟩
   | pool us es =>
     obtain ⟨a1, a2, a3⟩ := this
     exact ⟨a1, fun x hx => Nat.lt_of_lt_of_le (a2 x hx) hst.size, RL.step (hst.at 0) _ _ _ (fun x hx => h4 x hx) a3⟩
  ·exact h1
theorem Rel.adopt (h : Rel g T H io B tmps w) (ks : List Nat) (w' : World) (row : Row) (Bn : List Nat) (place : Option (Nat × Nat))
  (hst : Step (ctx g H io B w) (ctx g (AG ks H ++ [some row]) (fun i => if i = H.length then place else io i) (fun i => if i = H.length then Bn else if i ∈ ks then [] else B i) w'))
  (hBn : Bn.Nodup) (hmem : ∀ x ∈ Bn, ((∃ k ∈ ks, x ∈ B k) ∨ w.heap.size ≤ x) ∧ x < w'.heap.size)
  (hsame : ∀ id, id ∉ ks → ∀ x ∈ B id, w'.heap[x]? = w.heap[x]?)
  (hkept : Kept g.w0.heap.size g.lent w w')
  (hrow : bi (ctx g (AG ks H ++ [some row]) (fun i => if i = H.length then place else io i) (fun i => if i = H.length then Bn else if i ∈ ks then [] else B i) w') row Bn place) :
  Rel g T (AG ks H ++ [some row]) (fun i => if i = H.length then place else io i) (fun i => if i = H.length then Bn else if i ∈ ks then [] else B i) tmps w' := by
 have hB0 : ∀ id, H.length ≤ id → B id = [] := fun id hid => h.dead id fun r hl => by have := hl.lt; omega
 refine h.change hst ?_ ?_ ?_ ?_ ?_ ?_ ?_ (h.kept.trans hkept)
 ·intro id r hl
  rw [K6, AW] at hl
  rcases hl with ⟨rfl, rfl⟩ | ⟨h1, h2⟩
  ·right; simpa using hrow
  ·rw [D1] at h2
   left
   refine ⟨h2.2, by simp; omega, ?_, fun x hx => hsame id h2.1 x hx⟩
   simp only [if_neg h2.1, if_neg (Nat.ne_of_lt h1)]
 ·intro id hn
  try dsimp only
  by_cases hid : id = H.length
  ·exact absurd (by rw [K6, AW]; exact .inl ⟨hid, rfl⟩) (hn row)
  ·rw [if_neg hid]
   by_cases hk : id ∈ ks
   ·rw [if_pos hk]
   ·rw [if_neg hk]
    exact h.dead id fun r hl => hn r (by rw [K6, AW, D1]; exact .inr ⟨hl.lt, hk, hl⟩)
 ·intro id hid
  simp [AW] at hid
  rw [if_neg (by omega)]; exact h.io id (by omega)
 ·intro id
  try dsimp only
  split
  ·exact hBn
  ·split
   ·simp
   ·exact h.nd id
 ·intro i j x hi hj
  try dsimp only at hi hj
  by_cases h1 : i = H.length <;> by_cases h2 : j = H.length
  ·omega
  ·rw [if_pos h1] at hi; rw [if_neg h2] at hj
   by_cases hk : j ∈ ks
   ·rw [if_pos hk] at hj; cases hj
   ·rw [if_neg hk] at hj
    rcases (hmem x hi).1 with ⟨k, hk2, hx⟩ | hx
    ·exact absurd (h.dj _ _ _ hx hj ▸ hk2) hk
    ·have := h.lt j x hj; omega
  ·rw [if_neg h1] at hi; rw [if_pos h2] at hj
   by_cases hk : i ∈ ks
   ·rw [if_pos hk] at hi; cases hi
   ·rw [if_neg hk] at hi
    rcases (hmem x hj).1 with ⟨k, hk2, hx⟩ | hx
    ·exact absurd (h.dj _ _ _ hx hi ▸ hk2) hk
    ·have := h.lt i x hi; omega
  ·rw [if_neg h1] at hi; rw [if_neg h2] at hj
   by_cases hk : i ∈ ks
   ·rw [if_pos hk] at hi; cases hi
   ·by_cases hk2 : j ∈ ks
    ·rw [if_pos hk2] at hj; cases hj
    ·rw [if_neg hk] at hi; rw [if_neg hk2] at hj; exact h.dj i j x hi hj
 ·intro id x hx
  try dsimp only at hx
  by_cases h1 : id = H.length
  ·rw [if_pos h1] at hx; exact (hmem x hx).2
  ·rw [if_neg h1] at hx
   by_cases hk : id ∈ ks
   ·rw [if_pos hk] at hx; cases hx
   ·rw [if_neg hk] at hx; exact Nat.lt_of_lt_of_le (h.lt id x hx) hkept.size
 ·intro id x hx
  try dsimp only at hx
  by_cases h1 : id = H.length
  ·rw [if_pos h1] at hx
   rcases (hmem x hx).1 with ⟨k, _, hx2⟩ | hx2
   ·exact h.own k x hx2
   ·exact .inl (Nat.le_trans h.kept.size hx2)
  ·rw [if_neg h1] at hx
   by_cases hk : id ∈ ks
   ·rw [if_pos hk] at hx; cases hx
   ·rw [if_neg hk] at hx; exact h.own id x hx
theorem Rel.adopt_step (h : Rel g T H io B tmps w) (ks : List Nat) (w' : World) (row : Row) (Bn : List Nat) (place : Option (Nat × Nat))
  (hmem : ∀ x ∈ Bn, ((∃ k ∈ ks, x ∈ B k) ∨ w.heap.size ≤ x) ∧ x < w'.heap.size)
  (hplace : ∀ b p, place = some (b, p) → (∃ k q s, io k = some (b, q) ∧ Live H k s) ∨ w.heap.size ≤ b)
  (hw : ∀ b, b < w.heap.size → (∀ id p r, io id = some (b, p) → ¬ Live H id r) → w'.heap[b]? = w.heap[b]?)
  (hkept : Kept g.w0.heap.size g.lent w w') :
  Step (ctx g H io B w) (ctx g (AG ks H ++ [some row]) (fun i => if i = H.length then place else io i) (fun i => if i = H.length then Bn else if i ∈ ks then [] else B i) w') := by
 refine h.mkStep hkept.size ?_ ?_ (by simp [AW]) ?_ hw hkept.room
 ·intro id x hx
  by_cases h1 : id = H.length
  ·rw [if_pos h1] at hx
   rcases (hmem x hx).1 with ⟨k, _, hx2⟩ | hx2
   ·exact .inl ⟨k, hx2⟩
   ·exact .inr hx2
  ·rw [if_neg h1] at hx
   by_cases hk : id ∈ ks
   ·rw [if_pos hk] at hx; cases hx
   ·rw [if_neg hk] at hx; exact .inl ⟨id, hx⟩
 ·intro id x p r hi hl
  by_cases h1 : id = H.length
  ·rw [if_pos h1] at hi
   exact hplace x p hi
  ·rw [if_neg h1] at hi
   rw [K6, AW] at hl
   rcases hl with ⟨h2, _⟩ | ⟨_, h2⟩
   ·exact absurd h2 h1
   ·rw [D1] at h2
    exact .inl ⟨id, p, r, hi, h2.2⟩
 ·intro id hid
  rw [if_neg (Nat.ne_of_lt hid)]
theorem Rel.write (h : Rel g T H io B tmps w) {id b p : Nat} {r : Row} (hl : Live H id r) (hio : io id = some (b, p)) (ks : List Nat) (hid : id ∉ ks) (w' : World) (row : Row) (Bn : List Nat)
  (hBn : Bn.Nodup) (hmem : ∀ x ∈ Bn, x ∈ B id ∨ ∃ k ∈ ks, x ∈ B k)
  (hsz : w'.heap.size = w.heap.size) (hblk : ∀ k, k ≠ b → w'.heap[k]? = w.heap[k]?) (hroom : ∀ b p k, Ns w b p k → Ns w' b p k) (ho : w'.os = w.os) (ht : w'.tape = w.tape) (hu : w'.output = w.output)
  (hrow : ∀ C' : Ctx, C'.w = w' → C'.io = io → Step (ctx g H io B w) C' → bi C' row Bn (some (b, p))) :
  Rel g T ((AG ks H).set id (some row)) io (fun i => if i = id then Bn else if i ∈ ks then [] else B i) tmps w' ∧
   Step (ctx g H io B w) (ctx g ((AG ks H).set id (some row)) io (fun i => if i = id then Bn else if i ∈ ks then [] else B i) w') := by
 have hlen : id < (AG ks H).length := by rw [AW]; exact hl.lt
 have hlive : ∀ i s, Live ((AG ks H).set id (some row)) i s ↔ (i = id ∧ s = row) ∨ (i ≠ id ∧ i ∉ ks ∧ Live H i s) := by
  intro i s
  by_cases hi : id = i
  ·subst hi; unfold Live; rw [List.getElem?_set, if_pos rfl, if_pos hlen]; simp; exact eq_comm
  ·have e : Live ((AG ks H).set id (some row)) i s ↔ Live (AG ks H) i s := by unfold Live; rw [List.getElem?_set, if_neg hi]
   rw [e, D1]
   constructor
   ·exact fun h => .inr ⟨fun e => hi e.symm, h⟩
   ·rintro (⟨e, _⟩ | h)
    ·exact absurd e.symm hi
    ·exact h.2
 have hB : ∀ i x, x ∈ (if i = id then Bn else if i ∈ ks then [] else B i) → ∃ j, x ∈ B j ∧ (j = i ∨ (i = id ∧ j ∈ ks)) := by
  intro i x hx
  by_cases h1 : i = id
  ·rw [if_pos h1] at hx
   rcases hmem x hx with h2 | ⟨k, hk, h2⟩
   ·exact ⟨id, h2, .inl h1.symm⟩
   ·exact ⟨k, h2, .inr ⟨h1, hk⟩⟩
  ·rw [if_neg h1] at hx
   by_cases hk : i ∈ ks
   ·rw [if_pos hk] at hx; cases hx
   ·rw [if_neg hk] at hx; exact ⟨i, hx, .inl rfl⟩
 have hst : Step (ctx g H io B w) (ctx g ((AG ks H).set id (some row)) io (fun i => if i = id then Bn else if i ∈ ks then [] else B i) w') := by
  refine h.mkStep (by rw [hsz]; exact Nat.le_refl _) ?_ ?_ (by simp [AW]) (fun _ _ => rfl) ?_ hroom
  ·intro i x hx
   obtain ⟨j, hj, _⟩ := hB i x hx
   exact .inl ⟨j, hj⟩
  ·intro i x q s hi hs
   rcases (hlive i s).1 hs with ⟨rfl, rfl⟩ | ⟨_, _, h2⟩
   ·exact .inl ⟨i, q, r, hi, hl⟩
   ·exact .inl ⟨i, q, s, hi, h2⟩
  ·intro k hk hn
   refine hblk k ?_
   rintro rfl
   exact hn id p r hio hl
 refine ⟨h.change hst ?_ ?_ ?_ ?_ ?_ ?_ ?_ ?_, hst⟩
 ·intro i s hs
  rcases (hlive i s).1 hs with ⟨rfl, rfl⟩ | ⟨h1, h2, h3⟩
  ·right
   simp only [if_true]
   rw [hio]
   exact hrow _ rfl rfl hst
  ·left
   refine ⟨h3, rfl, by simp only [if_neg h1, if_neg h2], fun x hx => hblk x ?_⟩
   rintro rfl
   exact h1 (h.dj _ _ _ hx (h.row_mem hio hl))
 ·intro i hn
  try dsimp only
  by_cases h1 : i = id
  ·exact absurd ((hlive i row).2 (.inl ⟨h1, rfl⟩)) (hn row)
  ·rw [if_neg h1]
   by_cases hk : i ∈ ks
   ·rw [if_pos hk]
   ·rw [if_neg hk]; exact h.dead i fun s hs => hn s ((hlive i s).2 (.inr ⟨h1, hk, hs⟩))
 ·intro i hi
  simp [AW] at hi
  exact h.io i hi
 ·intro i
  try dsimp only
  split
  ·exact hBn
  ·split
   ·simp
   ·exact h.nd i
 ·intro i j x hi hj
  obtain ⟨i', h1, h2⟩ := hB i x hi
  obtain ⟨j', h3, h4⟩ := hB j x hj
  have := h.dj _ _ _ h1 h3
  subst this
  try dsimp only at hi hj
  rcases h2 with rfl | ⟨rfl, h2⟩ <;> rcases h4 with rfl | ⟨rfl, h4⟩
  ·rfl
  ·by_cases e : i' = j
   ·exact e
   ·rw [if_neg e, if_pos h4] at hi; cases hi
  ·by_cases e : i' = i
   ·exact e.symm
   ·rw [if_neg e, if_pos h2] at hj; cases hj
  ·rfl
 ·intro i x hx
  obtain ⟨j, hj, _⟩ := hB i x hx
  rw [hsz]; exact h.lt j x hj
 ·intro i x hx
  obtain ⟨j, hj, _⟩ := hB i x hx
  exact h.own j x hj
 ·refine h.kept.trans ⟨ho, ht, hu, by rw [hsz]; exact Nat.le_refl _, ?_, hroom⟩
  intro k hk hn
  refine hblk k ?_
  rintro rfl
  rcases h.own id k (h.row_mem hio hl) with h1 | h1
  ·omega
  ·exact hn h1
end
theorem Ba (a b : List AV) : Ak (a ++ b) = Ak a ++ Ak b := by
 induction a with
 | nil => rfl
 | cons x xs ih => simp [Ak, ih]
theorem Bb {sz : Nat} : ∀ {es : List AV}, Sized sz es → (Ak es).length = es.length * sz
 | [], _ => by simp [Ak]
 | e :: es, h => by
   have h1 : (Ab e).length = sz := h e (by simp)
   have h2 := Bb (es := es) (sz := sz) fun x hx => h x (by simp [hx])
   simp [Ak, h1, h2, Nat.add_mul]; omega
theorem Sized.sub {sz : Nat} {es fs : List AV} (h : Sized sz es) (hs : ∀ x ∈ fs, x ∈ es) : Sized sz fs := fun e he => h e (hs e he)
theorem Sized.append {sz : Nat} {es fs : List AV} (h : Sized sz es) (h' : Sized sz fs) : Sized sz (es ++ fs) := fun e he => by
 rcases List.mem_append.1 he with h1 | h1
 ·exact h e h1
 ·exact h' e h1
theorem Sized.nil {sz : Nat} : Sized sz [] := fun _ h => by cases h
theorem Sized.set {sz : Nat} {es : List AV} {i : Nat} {e : AV} (h : Sized sz es) (he : (Ab e).length = sz) : Sized sz (es.set i e) := fun x hx => by
 rcases List.mem_or_eq_of_mem_set hx with h1 | h1
 ·exact h x h1
 ·rw [h1]; exact he
theorem Cells.left {w : World} {b p : Nat} {xs ys : List Value} (h : Cells w b p (xs ++ ys)) : Cells w b p xs := fun j u hj =>
 h j u (by rw [List.getElem?_append_left]; exact hj; rcases Nat.lt_or_ge j xs.length with h1 | h1; exact h1; simp [h1] at hj)
theorem Cells.right {w : World} {b p : Nat} {xs ys : List Value} (h : Cells w b p (xs ++ ys)) : Cells w b (p + xs.length) ys := fun j u hj => by
 have := h (xs.length + j) u (by rw [List.getElem?_append_right (by omega)]; simpa using hj)
 rwa [← Nat.add_assoc] at this
theorem Cells.append {w : World} {b p : Nat} {xs ys : List Value} (h : Cells w b p xs) (h' : Cells w b (p + xs.length) ys) : Cells w b p (xs ++ ys) := fun j u hj => by
 rcases Nat.lt_or_ge j xs.length with h1 | h1
 ·rw [List.getElem?_append_left h1] at hj; exact h j u hj
 ·rw [List.getElem?_append_right h1] at hj
  have := h' (j - xs.length) u hj
  rwa [show p + xs.length + (j - xs.length) = p + j from by omega] at this
theorem Cells.nil {w : World} {b p : Nat} : Cells w b p [] := fun j u hj => by simp at hj
theorem ML {C : Ctx} {sz : Nat} {es : List AV} {S : List Nat} {us : List Value} {i : Nat} {e : AV} (hsz : Sized sz es) (h : RL C (Ak es) S us) (hi : es[i]? = some e) :
  ∃ S1 S2 S3 us1 us2 us3, S = S1 ++ (S2 ++ S3) ∧ us = us1 ++ (us2 ++ us3) ∧ us1.length = i * sz ∧ us2.length = sz ∧
    RL C (Ak (es.take i)) S1 us1 ∧ RL C (Ab e) S2 us2 ∧ RL C (Ak (es.drop (i + 1))) S3 us3 := by
 have hil : i < es.length := by rcases Nat.lt_or_ge i es.length with h1 | h1; exact h1; simp [h1] at hi
 have he : es = es.take i ++ (e :: es.drop (i + 1)) := by
  have : es[i] = e := by simpa [hil] using hi
  rw [← this, List.getElem_cons_drop, List.take_append_drop]
 have hm : e ∈ es := List.mem_of_getElem? hi
 rw [he, Ba] at h
 obtain ⟨S1, S', us1, us', rfl, rfl, h1, h2⟩ := h.split
 rw [Ak] at h2
 obtain ⟨S2, S3, us2, us3, rfl, rfl, h3, h4⟩ := h2.split
 refine ⟨S1, S2, S3, us1, us2, us3, rfl, rfl, ?_, ?_, h1, h3, h4⟩
 ·rw [h1.length, Bb (hsz.sub fun x hx => List.mem_of_mem_take hx)]; simp [Nat.min_eq_left (Nat.le_of_lt hil)]
 ·rw [h3.length]; exact hsz e hm
theorem Hs {C : Ctx} {sz : Nat} {es : List AV} {S : List Nat} {us : List Value} (off n : Nat) (hsz : Sized sz es) (h : RL C (Ak es) S us) (hn : off + n ≤ es.length) :
  ∃ S1 S2 S3 us1 us2 us3, S = S1 ++ (S2 ++ S3) ∧ us = us1 ++ (us2 ++ us3) ∧ us1.length = off * sz ∧ us2.length = n * sz ∧
    RL C (Ak ((es.drop off).take n)) S2 us2 := by
 have he : es = es.take off ++ ((es.drop off).take n ++ (es.drop off).drop n) := by rw [List.take_append_drop, List.take_append_drop]
 rw [he, Ba, Ba] at h
 obtain ⟨S1, S', us1, us', rfl, rfl, h1, h2⟩ := h.split
 obtain ⟨S2, S3, us2, us3, rfl, rfl, h3, h4⟩ := h2.split
 refine ⟨S1, S2, S3, us1, us2, us3, rfl, rfl, ?_, ?_, h3⟩
 ·rw [h1.length, Bb (hsz.sub fun x hx => List.mem_of_mem_take hx)]; simp [Nat.min_eq_left (show off ≤ es.length by omega)]
 ·rw [h3.length, Bb (hsz.sub fun x hx => List.mem_of_mem_drop (List.mem_of_mem_take hx))]; simp [Nat.min_eq_left (show n ≤ es.length - off by omega)]
mutual
def fz (H : AH) : AV → Option (AV × List Nat)
 | .v x => some (.v x, [])
 | .os sz es => some (.os sz es, [])
 | .sl c sz es => if c = 0 then some (.sl c sz es, []) else none
 | .vp c cs o => if c = 0 then some (.vp c cs o, []) else none
 | .ls sz id off n => match H[id]? with
   | some (some (.arr sz' es)) => if sz' = sz ∧ off + n ≤ es.length then some (.os sz ((es.drop off).take n), [id]) else none
   | _ => none
 | .lw sz id off n => match H[id]? with
   | some (some (.arr sz' es)) => if sz' = sz ∧ off + n ≤ es.length then some (.os sz ((es.drop off).take n), [id]) else none
   | _ => none
 | .agg cs => (fzL H cs).map fun x => (.agg x.1, x.2)
 | .tup cs => (fzL H cs).map fun x => (.tup x.1, x.2)
 | .fn f cs => (fzL H cs).map fun x => (.fn f x.1, x.2)
 | _ => none
def fzL (H : AH) : List AV → Option (List AV × List Nat)
 | [] => some ([], [])
 | a :: as => match fz H a, fzL H as with
   | some x, some y => some (x.1 :: y.1, x.2 ++ y.2)
   | _, _ => none
end
section
variable {g : Env} {T : List AV} {H : AH} {io : Nat → Option (Nat × Nat)} {B : Nat → List Nat} {tmps : Array Value} {w : World}
theorem PM (C : Ctx) (c : Nat) : (C.at c).at c = C.at c := by
 simp [Ctx.at]
theorem R.closeV {C : Ctx} {x : Value} {S : List Nat} {u : Value} (h : R C (.v x) S u) (c : Nat) : R (C.at c) (.v x) S u := by rw [R] at *; exact h
theorem R.closeO {C : Ctx} {sz : Nat} {es : List AV} {S : List Nat} {u : Value} (h : R C (.os sz es) S u) : R (C.at 0) (.os sz es) S u := by
 rw [R] at *; rw [PM]; exact h
theorem R.closeS {C : Ctx} {c sz : Nat} {es : List AV} {S : List Nat} {u : Value} (h : R C (.sl c sz es) S u) : R (C.at c) (.sl c sz es) S u := by
 rw [R] at *; rw [PM]; simpa [Ctx.at] using h
theorem R.closeP {C : Ctx} {c o : Nat} {es : List AV} {S : List Nat} {u : Value} (h : R C (.vp c es o) S u) : R (C.at c) (.vp c es o) S u := by
 rw [R] at *; rw [PM]; simpa [Ctx.at] using h
mutual
theorem bq (h : Rel g T H io B tmps w) : ∀ (a a' : AV) (ks : List Nat) (u : Value), fz H a = some (a', ks) → R (ctx g H io B w) a [] u →
  ∃ S, R ((ctx g H io B w).at 0) a' S u ∧ List.Sublist S (ks.flatMap B)
 | .v x, a', ks, u, hf, hr => by
   rw [fz] at hf; cases hf
   exact ⟨[], hr.closeV 0, by simp⟩
 | .os sz es, a', ks, u, hf, hr => by
   rw [fz] at hf; cases hf
   exact ⟨[], hr.closeO, by simp⟩
 | .sl c sz es, a', ks, u, hf, hr => by
   rw [fz] at hf; split at hf <;> cases hf
   rename_i hc; subst hc
   exact ⟨[], hr.closeS, by simp⟩
 | .vp c cs o, a', ks, u, hf, hr => by
   rw [fz] at hf; split at hf <;> cases hf
   rename_i hc; subst hc
   exact ⟨[], hr.closeP, by simp⟩
 | .ls sz id off n, a', ks, u, hf, hr => by
   rw [fz] at hf
   split at hf
   case h_2 => cases hf
   rename_i sz' es hl
   split at hf
   case isFalse => cases hf
   rename_i hc
   obtain ⟨rfl, hn⟩ := hc
   cases hf
   rw [R] at hr
   obtain ⟨_, _, a, cap, hu, hcap, hr⟩ := hr
   have hlen : ((es.drop off).take n).length = n := by simp; omega
   rcases hr with ⟨rfl, _⟩ | ⟨h0, b, p, hi, ha, hroom⟩
   ·have hn0 : n = 0 := by omega
    subst hn0
    refine ⟨[], ?_, by simp⟩
    rw [R]
    exact ⟨a, 0, by rw [hlen]; exact hu, by simp, .inl ⟨rfl, rfl⟩⟩
   ·have hrow := h.rows id _ hl
    rcases hrow with ⟨_, _, h3⟩ | ⟨b', p', us, S, h1, h2, h3, h4, h5, h6, h7⟩
    ·simp only [ctx] at hi; rw [h3] at hi; cases hi
    ·simp only [ctx] at hi; rw [hi] at h1; cases h1
     obtain ⟨S1, S2, S3, us1, us2, us3, rfl, rfl, e1, e2, e3⟩ := Hs off n h6 h7 hn
     refine ⟨b :: S2, ?_, ?_⟩
     ·rw [R]
      refine ⟨a, cap, by rw [hlen]; exact hu, by rw [hlen]; exact hcap, .inr ⟨h0, b, p + off * sz', us2, S2, rfl, ha, h3, hroom, ?_, h6.sub fun x hx => List.mem_of_mem_drop (List.mem_of_mem_take hx), by rw [PM]; exact e3⟩⟩
      have := h5.right.left
      rwa [e1] at this
     ·simp only [List.flatMap_cons, List.flatMap_nil, List.append_nil, h2]
      refine List.Sublist.cons_cons _ ?_
      exact (List.sublist_append_left S2 S3).trans (List.sublist_append_right S1 _)
 | .lw sz id off n, a', ks, u, hf, hr => by
   rw [fz] at hf
   split at hf
   case h_2 => cases hf
   rename_i sz' es hl
   split at hf
   case isFalse => cases hf
   rename_i hc
   obtain ⟨rfl, hn⟩ := hc
   cases hf
   rw [R] at hr
   obtain ⟨_, a, cap, hu, hcap, hr⟩ := hr
   have hlen : ((es.drop off).take n).length = n := by simp; omega
   rcases hr with rfl | ⟨h0, b, p, hi, ha, hroom⟩
   ·have hn0 : n = 0 := by omega
    subst hn0
    refine ⟨[], ?_, by simp⟩
    rw [R]
    exact ⟨a, 0, by rw [hlen]; exact hu, by simp, .inl ⟨rfl, rfl⟩⟩
   ·have hrow := h.rows id _ hl
    rcases hrow with ⟨_, _, h3⟩ | ⟨b', p', us, S, h1, h2, h3, h4, h5, h6, h7⟩
    ·simp only [ctx] at hi; rw [h3] at hi; cases hi
    ·simp only [ctx] at hi; rw [hi] at h1; cases h1
     obtain ⟨S1, S2, S3, us1, us2, us3, rfl, rfl, e1, e2, e3⟩ := Hs off n h6 h7 hn
     refine ⟨b :: S2, ?_, ?_⟩
     ·rw [R]
      refine ⟨a, cap, by rw [hlen]; exact hu, by rw [hlen]; exact hcap, .inr ⟨h0, b, p + off * sz', us2, S2, rfl, ha, h3, hroom, ?_, h6.sub fun x hx => List.mem_of_mem_drop (List.mem_of_mem_take hx), by rw [PM]; exact e3⟩⟩
      have := h5.right.left
      rwa [e1] at this
     ·simp only [List.flatMap_cons, List.flatMap_nil, List.append_nil, h2]
      refine List.Sublist.cons_cons _ ?_
      exact (List.sublist_append_left S2 S3).trans (List.sublist_append_right S1 _)
 | .agg cs, a', ks, u, hf, hr => by
   rw [fz] at hf
   cases hx : fzL H cs with
   | none => rw [hx] at hf; cases hf
   | some x =>
     rw [hx] at hf; cases hf
     rw [R] at hr
     obtain ⟨us, hu, hrl⟩ := hr
     obtain ⟨S, h1, h2⟩ := fzL_ok h cs x.1 x.2 us (by rw [hx]) hrl
     exact ⟨S, by rw [R]; exact ⟨us, hu, h1⟩, h2⟩
 | .tup cs, a', ks, u, hf, hr => by
   rw [fz] at hf
   cases hx : fzL H cs with
   | none => rw [hx] at hf; cases hf
   | some x =>
     rw [hx] at hf; cases hf
     rw [R] at hr
     obtain ⟨us, hu, hrl⟩ := hr
     obtain ⟨S, h1, h2⟩ := fzL_ok h cs x.1 x.2 us (by rw [hx]) hrl
     exact ⟨S, by rw [R]; exact ⟨us, hu, h1⟩, h2⟩
 | .fn f cs, a', ks, u, hf, hr => by
   rw [fz] at hf
   cases hx : fzL H cs with
   | none => rw [hx] at hf; cases hf
   | some x =>
     rw [hx] at hf; cases hf
     rw [R] at hr
     obtain ⟨us, hu, hrl⟩ := hr
     obtain ⟨S, h1, h2⟩ := fzL_ok h cs x.1 x.2 us (by rw [hx]) hrl
     exact ⟨S, by rw [R]; exact ⟨us, hu, h1⟩, h2⟩
 | .bot, a', ks, u, hf, hr => by simp [fz] at hf
 | .lp .., a', ks, u, hf, hr => by simp [fz] at hf
 | .op .., a', ks, u, hf, hr => by simp [fz] at hf
theorem fzL_ok (h : Rel g T H io B tmps w) : ∀ (as as' : List AV) (ks : List Nat) (us : List Value), fzL H as = some (as', ks) → RL (ctx g H io B w) as [] us →
  ∃ S, RL ((ctx g H io B w).at 0) as' S us ∧ List.Sublist S (ks.flatMap B)
 | [], as', ks, us, hf, hr => by
   rw [fzL] at hf; cases hf
   exact ⟨[], by rw [RL] at *; exact hr, by simp⟩
 | a :: as, as', ks, us, hf, hr => by
   rw [fzL] at hf
   split at hf
   case h_2 => cases hf
   rename_i x y hx hy
   cases hf
   rw [RL] at hr
   obtain ⟨S1, S2, u, us', hS, rfl, h1, h2⟩ := hr
   obtain ⟨rfl, rfl⟩ : S1 = [] ∧ S2 = [] := by simpa using hS.symm
   obtain ⟨S3, h3, h4⟩ := bq h a x.1 x.2 u hx h1
   obtain ⟨S4, h5, h6⟩ := fzL_ok h as y.1 y.2 us' hy h2
   exact ⟨S3 ++ S4, by rw [RL]; exact ⟨S3, S4, u, us', rfl, rfl, h3, h5⟩, by rw [List.flatMap_append]; exact h4.append h6⟩
end
theorem Rel.flat_nodup (h : Rel g T H io B tmps w) : ∀ {ks : List Nat}, ks.Nodup → (ks.flatMap B).Nodup
 | [], _ => by simp
 | k :: ks, hk => by
   rw [List.nodup_cons] at hk
   rw [List.flatMap_cons, List.nodup_append]
   refine ⟨h.nd k, h.flat_nodup hk.2, ?_⟩
   rintro x hx y hy rfl
   obtain ⟨j, hj, hxj⟩ := List.mem_flatMap.1 hy
   exact hk.1 (h.dj _ _ _ hx hxj ▸ hj)
theorem FE {S : List Nat} {ks : List Nat} (hs : List.Sublist S (ks.flatMap B)) {x : Nat} (hx : x ∈ S) : ∃ k ∈ ks, x ∈ B k := by
 obtain ⟨k, hk, h⟩ := List.mem_flatMap.1 (hs.subset hx); exact ⟨k, hk, h⟩
end
inductive Opd where
 | t (n : Nat)
 | c (a : AV)
 | f (id : Nat)
 deriving Inhabited
def ev (T : List AV) : Opd → AV
 | .t n => T.getD n .bot
 | .c a => a
 | .f id => .fn id []
def R2 : AV → Bool
 | .v x => x.oneCell'
 | .ls .. | .lw .. | .os .. | .sl .. | .lp .. | .vp .. | .fn .. => true
 | _ => false
theorem RA {C : Ctx} {a : AV} {S : List Nat} {u : Value} (h : R C a S u) (ha : R2 a = true) : u.oneCell' = true := by
 cases a <;> first | (simp [R2] at ha; done) | skip
 ·rw [R] at h; rw [h.2]; simpa [R2] using ha
 ·rw [R] at h; obtain ⟨_, a, cap, rfl, _⟩ := h; rfl
 ·rw [R] at h; obtain ⟨_, b, p, us, rfl, _⟩ := h; rfl
 ·rw [R] at h; obtain ⟨_, _, a, cap, rfl, _⟩ := h; rfl
 ·rw [R] at h; obtain ⟨_, a, cap, rfl, _⟩ := h; rfl
 ·rw [R] at h; obtain ⟨_, b, p, _, rfl⟩ := h; rfl
 ·rw [R] at h; obtain ⟨a, cap, rfl, _⟩ := h; rfl
 ·rw [R] at h; obtain ⟨us, rfl, _⟩ := h; rfl
theorem br {u : Value} (h : u.oneCell' = true) : u.cells = #[u] := by
 cases u <;> first | rfl | (simp [Value.oneCell'] at h)
def aj : List AV → Bool
 | [] => true
 | a :: as => R2 a && aj as
theorem TJ {C : Ctx} : ∀ {as : List AV} {S : List Nat} {us : List Value}, RL C as S us → aj as = true → ∀ u ∈ us, u.oneCell' = true
 | [], S, us, h, _ => by rw [RL] at h; rw [h.2]; intro u hu; cases hu
 | a :: as, S, us, h, ha => by
   rw [RL] at h
   obtain ⟨S1, S2, u, us', rfl, rfl, h1, h2⟩ := h
   simp only [aj, Bool.and_eq_true] at ha
   intro x hx
   rcases List.mem_cons.1 hx with rfl | hx
   ·exact RA h1 ha.1
   ·exact TJ h2 ha.2 x hx
def cellsOf : AV → Option (List AV)
 | .agg cs => if aj cs then some cs else none
 | a => if R2 a then some [a] else none
def ldc (ag : Bool) (k o : Nat) (cs : List AV) : Option AV :=
 if ag then (if o + k ≤ cs.length then some (.agg ((cs.drop o).take k)) else none) else cs[o]?
def WQ : TypeDesc → Bool
 | .struct _ | .array _ _ => true
 | _ => false
section
variable {P : Program} {w : World}
theorem CL (b p i : Nat) : (⟨b, p, none⟩ : Addr).add i = ⟨b, p + i, none⟩ := by
 unfold Addr.add; split <;> simp_all
theorem AP {t : TypeId} {d : TypeDesc} (h : P.underlying t = some d) : (underlying t).run P w = .ok d w := by simp [underlying, h]
theorem PN {t : TypeId} {i : TypeInfo} (h : P.info? t = some i) : (typeInfo t).run P w = .ok i w := by simp [typeInfo, h]
theorem Bj {t : TypeId} {i : TypeInfo} (h : P.info? t = some i) : (sizeOf t).run P w = .ok i.size w := by simp [sizeOf, PN h]
theorem Ng {t : TypeId} {d : TypeDesc} (h : P.underlying t = some d) : (isAgg t).run P w = .ok (WQ d) w := by
 simp only [isAgg, Sem.run_bind, AP h, Result.andThen_ok]
 cases d <;> rfl
theorem Gl {t : TypeId} {i : TypeInfo} {z : Value} (h : P.info? t = some i) (hz : i.zero = some z) : (zeroValue t).run P w = .ok z w := by
 simp [zeroValue, PN h, hz]
theorem RL.window {C : Ctx} {cs : List AV} {us : List Value} (o k : Nat) (h : RL C cs [] us) (hk : o + k ≤ cs.length) : RL C ((cs.drop o).take k) [] ((us.drop o).take k) := by
 have he : cs = cs.take o ++ ((cs.drop o).take k ++ (cs.drop o).drop k) := by rw [List.take_append_drop, List.take_append_drop]
 have hlen := h.length
 have h' := h
 rw [he] at h'
 obtain ⟨S1, S', us1, us', hS, rfl, h1, h2⟩ := h'.split
 obtain ⟨S2, S3, us2, us3, rfl, rfl, h3, h4⟩ := h2.split
 obtain ⟨rfl, rfl, rfl⟩ : S1 = [] ∧ S2 = [] ∧ S3 = [] := by simpa using hS.symm
 have e1 : us1.length = o := by rw [h1.length]; simp; omega
 have e2 : us2.length = k := by rw [h3.length]; simp; omega
 have : ((us1 ++ (us2 ++ us3)).drop o).take k = us2 := by rw [← e1, List.drop_left, ← e2, List.take_left]
 rw [this]; exact h3
theorem J3 {C : Ctx} {t : TypeId} {d : TypeDesc} {i : TypeInfo} (hd : P.underlying t = some d) (hi : P.info? t = some i) {b p o : Nat} {cs : List AV} {us : List Value} {av : AV}
  (hc : Cells w b p us) (hr : RL C cs [] us) (hl : ldc (WQ d) i.size o cs = some av) :
  ∃ v, (Instr.loadAt t (.pointer (some ⟨b, p + o, none⟩))).run P w = .ok v w ∧ R C av [] v := by
 simp only [Instr.loadAt, Instr.sureAddr, loadVar, Sem.run_bind, Sem.run_pure, Result.andThen_ok, Ng hd]
 cases hg : WQ d with
 | true =>
   rw [hg] at hl
   simp only [ldc, if_true] at hl
   split at hl
   ·rename_i hk
    cases hl
    have hw := hr.window o i.size hk
    have hlen : ((us.drop o).take i.size).length = i.size := by rw [hw.length]; simp; omega
    refine ⟨.agg ((us.drop o).take i.size).toArray, ?_, by rw [R]; exact ⟨_, rfl, hw⟩⟩
    simp only [if_true, Sem.run_bind, Bj hi, Result.andThen_ok]
    have := run_loadCells_list (P := P) (w := w) ⟨b, p + o, none⟩ ((us.drop o).take i.size) (by
     intro j v hj
     rw [CL, Nat.add_assoc]
     refine hc (o + j) v ?_
     rw [List.getElem?_take] at hj
     split at hj
     ·rwa [List.getElem?_drop] at hj
     ·cases hj)
    rw [hlen] at this
    rw [this]; rfl
   ·cases hl
 | false =>
   rw [hg] at hl
   simp only [ldc, Bool.false_eq_true, if_false] at hl ⊢
   obtain ⟨S1, S2, S3, u, hS, hu, hR⟩ := hr.get hl
   obtain ⟨rfl, rfl, rfl⟩ : S1 = [] ∧ S2 = [] ∧ S3 = [] := by simpa using hS.symm
   exact ⟨u, by rw [run_load, hc o u hu], hR⟩
end
mutual
def vw (c : Nat) : AV → AV
 | .v x => .v x
 | .os sz es => .sl c sz (vwL c es)
 | .sl _ sz es => .sl c sz (vwL c es)
 | .vp _ cs o => .vp c (vwL c cs) o
 | .op cs => .vp c (vwL c cs) 0
 | .agg cs => .agg (vwL c cs)
 | .fn f cs => .fn f (vwL c cs)
 | _ => .bot
def vwL (c : Nat) : List AV → List AV
 | [] => []
 | a :: as => vw c a :: vwL c as
end
theorem DY (c : Nat) : ∀ as : List AV, (vwL c as).length = as.length
 | [] => by simp [vwL]
 | a :: as => by simp [vwL, DY c as]
theorem Vv (c : Nat) : ∀ as bs : List AV, vwL c (as ++ bs) = vwL c as ++ vwL c bs
 | [], bs => by simp [vwL]
 | a :: as, bs => by simp [vwL, Vv c as bs]
theorem Xk (c : Nat) (a : AV) : Ab (vw c a) = vwL c (Ab a) := by
 cases a <;> simp [vw, Ab, vwL]
theorem MM (c : Nat) : ∀ es : List AV, Ak (vwL c es) = vwL c (Ak es)
 | [] => by simp [vwL, Ak]
 | e :: es => by simp [vwL, Ak, Vv, Xk, MM c es]
theorem Sized.vw {sz : Nat} (c : Nat) : ∀ {es : List AV}, Sized sz es → Sized sz (vwL c es)
 | [], _ => by simp [vwL, Sized]
 | e :: es, h => by
   intro x hx
   simp only [vwL, List.mem_cons] at hx
   rcases hx with rfl | hx
   ·rw [Xk, DY]; exact h e (by simp)
   ·exact Sized.vw c (es := es) (fun y hy => h y (by simp [hy])) x hx
mutual
theorem iE {C' : Ctx} (c : Nat) : ∀ (a : AV) (C0 : Ctx), (∀ i, C0.io i = none) → C'.w = C0.w → (∀ d b, b < C0.w.heap.size → ¬ C0.bad d b → ¬ C'.bad c b) → ∀ (S : List Nat) (u : Value), R C0 a S u → (∀ x ∈ S, ¬ C'.bad c x) → R (C'.at c) (vw c a) [] u
 | .v x, C0, hio, hw, hbad, S, u, hr, hS => by rw [R] at hr; rw [vw, R]; exact ⟨rfl, hr.2⟩
 | .bot, C0, hio, hw, hbad, S, u, hr, hS => by simp [vw, R]
 | .tup cs, C0, hio, hw, hbad, S, u, hr, hS => by simp [vw, R]
 | .ls .., C0, hio, hw, hbad, S, u, hr, hS => by simp [vw, R]
 | .lw .., C0, hio, hw, hbad, S, u, hr, hS => by simp [vw, R]
 | .lp .., C0, hio, hw, hbad, S, u, hr, hS => by simp [vw, R]
 | .os sz es, C0, hio, hw, hbad, S, u, hr, hS => by
   rw [R] at hr
   rw [vw, R, PM]
   obtain ⟨a, cap, hu, hc, hr⟩ := hr
   refine ⟨rfl, a, cap, by rw [DY]; exact hu, by rw [DY]; exact hc, ?_⟩
   rcases hr with ⟨h0, _⟩ | ⟨_, b, p, us, S', rfl, ha, hb, _, hcells, hsz, hrl⟩
   ·left
    have : es = [] := List.length_eq_zero_iff.1 (by omega)
    subst this; rfl
   ·right
    refine ⟨b, p, us, ha, by simpa [Ctx.at, hw] using hb, by simpa [Ctx.at] using hS b (by simp), by simpa [Ctx.at, hw] using hcells, hsz.vw c, ?_⟩
    rw [MM]
    exact vwL_ok c _ (C0.at 0) (fun _ => rfl) hw (fun d b hb hbd => hbad 0 b hb (by simp only [Ctx.at, Classical.not_imp] at hbd; exact hbd.2)) _ _ hrl fun x hx => hS x (by simp [hx])
 | .sl d sz es, C0, hio, hw, hbad, S, u, hr, hS => by
   rw [R] at hr
   rw [vw, R, PM]
   obtain ⟨_, a, cap, hu, hc, hr⟩ := hr
   refine ⟨rfl, a, cap, by rw [DY]; exact hu, by rw [DY]; exact hc, ?_⟩
   rcases hr with h0 | ⟨b, p, us, ha, hb, hbd, hcells, hsz, hrl⟩
   ·left; subst h0; rfl
   ·right
    refine ⟨b, p, us, ha, by simpa [Ctx.at, hw] using hb, by simpa [Ctx.at] using hbad d b hb hbd, by simpa [Ctx.at, hw] using hcells, hsz.vw c, ?_⟩
    rw [MM]
    exact vwL_ok c _ (C0.at d) (fun _ => rfl) hw (fun e b hb hbd => hbad d b hb (by simp only [Ctx.at, Classical.not_imp] at hbd; exact hbd.2)) _ _ hrl (by simp)
 | .vp d cs o, C0, hio, hw, hbad, S, u, hr, hS => by
   rw [R] at hr
   rw [vw, R, PM]
   obtain ⟨_, b, p, us, hu, hb, hbd, hcells, hrl⟩ := hr
   exact ⟨rfl, b, p, us, hu, by simpa [Ctx.at, hw] using hb, by simpa [Ctx.at] using hbad d b hb hbd, by simpa [Ctx.at, hw] using hcells,
    vwL_ok c _ (C0.at d) (fun _ => rfl) hw (fun e b hb hbd => hbad d b hb (by simp only [Ctx.at, Classical.not_imp] at hbd; exact hbd.2)) _ _ hrl (by simp)⟩
 | .op cs, C0, hio, hw, hbad, S, u, hr, hS => by
   rw [R] at hr
   rw [vw, R, PM]
   obtain ⟨b, p, us, S', rfl, hu, hb, _, hcells, hrl⟩ := hr
   exact ⟨rfl, b, p, us, by simpa using hu, by simpa [Ctx.at, hw] using hb, by simpa [Ctx.at] using hS b (by simp), by simpa [Ctx.at, hw] using hcells,
    vwL_ok c _ (C0.at 0) (fun _ => rfl) hw (fun e b hb hbd => hbad 0 b hb (by simp only [Ctx.at, Classical.not_imp] at hbd; exact hbd.2)) _ _ hrl fun x hx => hS x (by simp [hx])⟩
 | .agg cs, C0, hio, hw, hbad, S, u, hr, hS => by
   rw [R] at hr
   rw [vw, R]
   obtain ⟨us, hu, hrl⟩ := hr
   exact ⟨us, hu, vwL_ok c _ _ hio hw hbad _ _ hrl hS⟩
 | .fn f cs, C0, hio, hw, hbad, S, u, hr, hS => by
   rw [R] at hr
   rw [vw, R]
   obtain ⟨us, hu, hrl⟩ := hr
   exact ⟨us, hu, vwL_ok c _ _ hio hw hbad _ _ hrl hS⟩
termination_by a => SizeOf.sizeOf a
decreasing_by all_goals (first | (have := JB es; simp; omega) | (simp; done) | (simp; omega))
theorem vwL_ok {C' : Ctx} (c : Nat) : ∀ (as : List AV) (C0 : Ctx), (∀ i, C0.io i = none) → C'.w = C0.w → (∀ d b, b < C0.w.heap.size → ¬ C0.bad d b → ¬ C'.bad c b) → ∀ (S : List Nat) (us : List Value), RL C0 as S us → (∀ x ∈ S, ¬ C'.bad c x) → RL (C'.at c) (vwL c as) [] us
 | [], C0, hio, hw, hbad, S, us, hr, hS => by rw [RL] at hr; rw [vwL, RL]; exact ⟨rfl, hr.2⟩
 | a :: as, C0, hio, hw, hbad, S, us, hr, hS => by
   rw [RL] at hr
   rw [vwL, RL]
   obtain ⟨S1, S2, u, us', rfl, rfl, h1, h2⟩ := hr
   exact ⟨[], [], u, us', rfl, rfl, iE c _ _ hio hw hbad _ _ h1 fun x hx => hS x (by simp [hx]), vwL_ok c _ _ hio hw hbad _ _ h2 fun x hx => hS x (by simp [hx])⟩
termination_by as => SizeOf.sizeOf as
decreasing_by all_goals (simp; omega)
end
theorem Xl (C : Ctx) (c : Nat) : Step (C.at c) C := ⟨Nat.le_refl _, fun d b _ h => by
 simp only [Ctx.at, Classical.not_imp] at h
 obtain ⟨rfl, h⟩ := h
 exact ⟨h, rfl⟩, fun _ _ h => by simp [Ctx.at] at h, Nat.zero_le _, fun id h => by simp [Ctx.at] at h, fun _ _ _ h => h⟩
theorem R.open {C : Ctx} {c : Nat} {a : AV} {S : List Nat} {u : Value} (h : R (C.at c) a S u) : R C a S u := R.step (Xl C c) _ _ _ (fun _ _ => rfl) h
theorem RL.open {C : Ctx} {c : Nat} {a : List AV} {S : List Nat} {u : List Value} (h : RL (C.at c) a S u) : RL C a S u := RL.step (Xl C c) _ _ _ (fun _ _ => rfl) h
def ald (H : AH) (ag : Bool) (k : Nat) : AV → Option AV
 | .vp _ cs o => ldc ag k o cs
 | .lp sz id i o => match H[id]? with
   | some (some (.box cs)) => if i = 0 then ldc ag k o cs else none
   | some (some (.arr sz' es)) => if sz' = sz then (match es[i]? with | some e => ldc ag k o (vwL 2 (Ab e)) | none => none) else none
   | _ => none
 | _ => none
def ak (off : Nat) : AV → Option AV
 | .vp c cs o => some (.vp c cs (o + off))
 | .lp sz id i o => some (.lp sz id i (o + off))
 | _ => none
def D2 (sz : Nat) (x i : AV) : Option AV :=
 match i with
 | .v (.int _ n) => match x with
   | .sl c sz' es => if sz' = sz ∧ 0 ≤ n then (match es[n.toNat]? with | some e => some (.vp c (Ab e) 0) | none => none) else none
   | .ls sz' id off k => if sz' = sz ∧ 0 ≤ n ∧ n < k then some (.lp sz id (off + n.toNat) 0) else none
   | .lw sz' id off k => if sz' = sz ∧ 0 ≤ n ∧ n < k then some (.lp sz id (off + n.toNat) 0) else none
   | _ => none
 | _ => none
section
variable {P : Program} {g : Env} {T : List AV} {H : AH} {io : Nat → Option (Nat × Nat)} {B : Nat → List Nat} {tmps : Array Value} {w : World}
theorem Rel.not_head (h : Rel g T H io B tmps w) {id b : Nat} {S : List Nat} (hB : B id = b :: S) {r : Row} {p : Nat} (hio : io id = some (b, p)) (hl : Live H id r) {x : Nat} (hx : x ∈ S) : ¬ (ctx g H io B w).bad 2 x := by
 rintro ⟨j, q, s, hj, hs⟩
 have h1 := h.row_mem hj hs
 have h2 : j = id := h.dj _ _ x h1 (by rw [hB]; simp [hx])
 subst h2
 rw [hio] at hj; cases hj
 have := h.nd j
 rw [hB, List.nodup_cons] at this
 exact this.1 hx
theorem Rel.bad2 (h : Rel g T H io B tmps w) (d b : Nat) (hb : ¬ (ctx g H io B w).bad d b) : ¬ (ctx g H io B w).bad 2 b := by
 rintro ⟨j, q, s, hj, hs⟩
 have h1 := h.row_mem hj hs
 match d, hb with
 | 0, hb => exact hb (.inl ⟨j, h1⟩)
 | 1, hb => exact hb ⟨j, h1⟩
 | d + 2, hb => exact hb ⟨j, q, s, hj, hs⟩
theorem bt (h : Rel g T H io B tmps w) {t : TypeId} {d : TypeDesc} {i : TypeInfo} (hd : P.underlying t = some d) (hi : P.info? t = some i) {x av : AV} {u : Value}
  (hx : R (ctx g H io B w) x [] u) (hop : ald H (WQ d) i.size x = some av) : ∃ v, (Instr.loadAt t u).run P w = .ok v w ∧ R (ctx g H io B w) av [] v := by
 unfold ald at hop
 split at hop
 ·rename_i c cs o
  rw [R] at hx
  obtain ⟨_, b, p, us, rfl, _, _, hc, hr⟩ := hx
  obtain ⟨v, h1, h2⟩ := J3 (P := P) hd hi hc hr.open hop
  exact ⟨v, h1, h2⟩
 ·rename_i sz id n o
  rw [R] at hx
  obtain ⟨_, b, p, hio, rfl⟩ := hx
  simp only [ctx] at hio
  split at hop
  ·rename_i cs hl
   split at hop
   case isFalse => cases hop
   rename_i hn
   subst hn
   obtain ⟨b', p', us, h1, h2, h3, h4, h5, h6⟩ := h.rows id _ hl
   rw [hio] at h1; cases h1
   obtain ⟨v, h7, h8⟩ := J3 (P := P) hd hi h5 h6 hop
   exact ⟨v, by simp only [Nat.zero_mul, Nat.add_zero]; exact h7, h8⟩
  ·rename_i sz' es hl
   split at hop
   case isFalse => cases hop
   rename_i hn
   subst hn
   split at hop
   case h_2 => cases hop
   rename_i e he
   rcases h.rows id _ hl with ⟨h0, _, _⟩ | ⟨b', p', us, S, h1, h2, h3, h4, h5, h6, h7⟩
   ·subst h0; simp at he
   ·rw [hio] at h1; cases h1
    obtain ⟨S1, S2, S3, us1, us2, us3, rfl, rfl, e1, e2, _, e3, _⟩ := ML h6 h7 he
    have hv := vwL_ok (C' := ctx g H io B w) 2 _ ((ctx g H io B w).at 0) (fun _ => rfl) rfl (fun d b _ hb => h.bad2 0 b (by simp only [Ctx.at, Classical.not_imp] at hb; exact hb.2)) _ _ e3 (fun x hx => h.not_head h2 hio hl (by simp [hx]))
    have hc := h5.right.left
    rw [e1] at hc
    exact J3 (P := P) hd hi hc hv.open hop
  ·cases hop
 ·cases hop
theorem iG {C : Ctx} {t : TypeId} {fs : Array Field} {k : Nat} {f : Field} {i : TypeInfo} (hd : P.underlying t = some (.struct fs)) (hf : fs[k]? = some f) (hi : P.info? f.type = some i) (h0 : i.size ≠ 0) {x av : AV} {u : Value}
  (hx : R C x [] u) (hop : ak f.offset x = some av) : (∀ w, (Instr.fieldAt t u k).run P w = .ok (match u with | .pointer (some a) => .pointer (some (a.add f.offset)) | v => v) w) ∧ R C av [] (match u with | .pointer (some a) => .pointer (some (a.add f.offset)) | v => v) := by
 have run : ∀ (a : Addr) (w : World), (Instr.fieldAt t (.pointer (some a)) k).run P w = .ok (.pointer (some (a.add f.offset))) w := by
  intro a w
  simp only [Instr.fieldAt, Sem.run_bind, AP hd, Result.andThen_ok, hf, Instr.sureAddr, Sem.run_pure, fieldPlace, Bj hi, if_neg h0]
 unfold ak at hop
 split at hop
 ·cases hop
  rw [R] at hx
  obtain ⟨_, b, p, us, rfl, h1, h2, hc, hr⟩ := hx
  refine ⟨run _, ?_⟩
  rw [R]
  exact ⟨rfl, b, p, us, by simp [CL, Nat.add_assoc], h1, h2, hc, hr⟩
 ·cases hop
  rw [R] at hx
  obtain ⟨_, b, p, hio, rfl⟩ := hx
  refine ⟨run _, ?_⟩
  rw [R]
  exact ⟨rfl, b, p, hio, by simp [CL, Nat.add_assoc]⟩
 ·cases hop
theorem am {C : Ctx} {t e : TypeId} {len : Nat} {i : TypeInfo} {kd : IntKind} {n : Int} (hd : P.underlying t = some (.array len e)) (hi : P.info? e = some i) (h0 : 0 ≤ n) (h1 : n.toNat < len) {x av : AV} {u : Value}
  (hx : R C x [] u) (hop : ak (n.toNat * i.size) x = some av) : (∀ w, (Instr.indexAt t u (.int kd n)).run P w = .ok (match u with | .pointer (some a) => .pointer (some (a.add (n.toNat * i.size))) | v => v) w) ∧ R C av [] (match u with | .pointer (some a) => .pointer (some (a.add (n.toNat * i.size))) | v => v) := by
 have h1' : n < (len : Int) := by omega
 have run : ∀ (a : Addr) (w : World), (Instr.indexAt t (.pointer (some a)) (.int kd n)).run P w = .ok (.pointer (some (a.add (n.toNat * i.size)))) w := by
  intro a w
  simp only [Instr.indexAt, asIntOf, Sem.run_bind, Sem.run_pure, Result.andThen_ok, AP hd, Instr.sureAddr]
  rw [if_pos (⟨h0, h1'⟩ : 0 ≤ n ∧ n < (len : Int))]
  simp only [Sem.run_bind, Bj hi, Result.andThen_ok, Sem.run_pure]
 unfold ak at hop
 split at hop
 ·cases hop
  rw [R] at hx
  obtain ⟨_, b, p, us, rfl, h1, h2, hc, hr⟩ := hx
  refine ⟨run _, ?_⟩
  rw [R]
  exact ⟨rfl, b, p, us, by simp [CL, Nat.add_assoc], h1, h2, hc, hr⟩
 ·cases hop
  rw [R] at hx
  obtain ⟨_, b, p, hio, rfl⟩ := hx
  refine ⟨run _, ?_⟩
  rw [R]
  exact ⟨rfl, b, p, hio, by simp [CL, Nat.add_assoc]⟩
 ·cases hop
theorem iH {C : Ctx} {t e : TypeId} {i : TypeInfo} (hd : P.underlying t = some (.slice e)) (hi : P.info? e = some i) {x y av : AV} {u v : Value}
  (hx : R C x [] u) (hy : R C y [] v) (hop : D2 i.size x y = some av) : ∃ r, (∀ w, (Instr.indexAt t u v).run P w = .ok r w) ∧ R C av [] r := by
 unfold D2 at hop
 split at hop
 case h_2 => cases hop
 rename_i kd n
 rw [R] at hy
 obtain ⟨_, rfl⟩ := hy
 have run : ∀ (a : Addr) (len cap : Nat), 0 ≤ n → n < len → ∀ w, (Instr.indexAt t (.slice (some a) len cap) (.int kd n)).run P w = .ok (.pointer (some (a.add (n.toNat * i.size)))) w := by
  intro a len cap h0 h1 w
  simp only [Instr.indexAt, asIntOf, Sem.run_bind, Sem.run_pure, Result.andThen_ok, AP hd]
  rw [if_pos (⟨h0, h1⟩ : 0 ≤ n ∧ n < (len : Int))]
  simp only [Sem.run_bind, Bj hi, Result.andThen_ok, Sem.run_pure]
 split at hop
 ·rename_i c sz' es
  split at hop
  case isFalse => cases hop
  rename_i hc
  obtain ⟨rfl, h0⟩ := hc
  split at hop
  case h_2 => cases hop
  rename_i e he
  cases hop
  have hlt : n.toNat < es.length := by rcases Nat.lt_or_ge n.toNat es.length with h1 | h1; exact h1; simp [h1] at he
  rw [R] at hx
  obtain ⟨_, a, cap, rfl, hcap, hr⟩ := hx
  rcases hr with rfl | ⟨b, p, us, rfl, hb, hbad, hcells, hsz, hrl⟩
  ·simp at he
  ·refine ⟨_, run _ _ _ h0 (by omega), ?_⟩
   obtain ⟨S1, S2, S3, us1, us2, us3, hS, rfl, e1, e2, _, e3, _⟩ := ML hsz hrl he
   obtain ⟨rfl, rfl, rfl⟩ : S1 = [] ∧ S2 = [] ∧ S3 = [] := by simpa using hS.symm
   rw [R]
   have hc := hcells.right.left
   rw [e1] at hc
   exact ⟨rfl, b, p + n.toNat * i.size, us2, by simp [CL], hb, hbad, hc, e3⟩
 ·rename_i sz' id off k
  split at hop
  case isFalse => cases hop
  rename_i hc
  obtain ⟨rfl, h0, h1⟩ := hc
  cases hop
  rw [R] at hx
  obtain ⟨_, _, a, cap, rfl, hcap, hr⟩ := hx
  rcases hr with ⟨rfl, _⟩ | ⟨_, b, p, hio, rfl, hroom⟩
  ·omega
  ·refine ⟨_, run _ _ _ h0 h1, ?_⟩
   rw [R]
   exact ⟨rfl, b, p, hio, by simp [CL, Nat.add_mul, Nat.add_assoc]⟩
 ·rename_i sz' id off k
  split at hop
  case isFalse => cases hop
  rename_i hc
  obtain ⟨rfl, h0, h1⟩ := hc
  cases hop
  rw [R] at hx
  obtain ⟨_, a, cap, rfl, hcap, hr⟩ := hx
  rcases hr with rfl | ⟨_, b, p, hio, rfl, hroom⟩
  ·omega
  ·refine ⟨_, run _ _ _ h0 h1, ?_⟩
   rw [R]
   exact ⟨rfl, b, p, hio, by simp [CL, Nat.add_mul, Nat.add_assoc]⟩
 ·cases hop
end
end Go.Proofs.Dev
