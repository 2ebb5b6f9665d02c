/- Contracts of the functions of the program over slots and rows, each proved against the program itself; no condition beyond those that each theorem names. -/
import Derived.Test.YtfkmfobbgoflgaaGreatDoorAH
import Derived.OrdersHeld
set_option linter.unusedSimpArgs false
set_option linter.unusedVariables false
set_option maxRecDepth 100000
namespace Go.Proofs.Dev
theorem ZG {W x y : Int} (hx : 0 ≤ x) (hx2 : x < W) : (y * W + x) % W = x ∧ (y * W + x) / W = y := by
 have hW : W ≠ 0 := by omega
 rw [Int.add_comm (y * W) x]
 rw [Int.add_mul_emod_self_right, Int.emod_eq_of_lt hx hx2, Int.add_mul_ediv_right _ _ hW, Int.ediv_eq_zero_of_lt hx hx2, Int.zero_add]
 exact ⟨rfl, rfl⟩
theorem Hr {w : Int} (h1 : 1 ≤ w) (h4 : w ≤ 4) : Cn (Cn w) = w ∧ 1 ≤ Cn w ∧ Cn w ≤ 4 := by
 unfold Cn; omega
theorem DU {W T k way : Int} (hW : 1 ≤ W) (h0 : 0 ≤ k) (h1 : k < W * T) (ht : 0 ≤ AJ W T k way) :
  AJ W T (AJ W T k way) (Cn way) = k ∧ 1 ≤ way ∧ way ≤ 4 ∧ AJ W T k way ≠ k ∧ AJ W T k way < W * T := by
 have hr := GR (T := T) (way := way) hW h0 h1
 obtain ⟨a1, a2, a3, a4, a5⟩ := Wj hW h0 h1
 rcases hr with hr | ⟨_, hlt, hw1, hw4⟩
 ·omega
 refine ⟨?_, hw1, hw4, ?_, hlt⟩
 ·generalize hx : k % W = x at *
  generalize hy : k / W = y at *
  have hk : k = y * W + x := a5
  have hw : way = 1 ∨ way = 2 ∨ way = 3 ∨ way = 4 := by omega
  rcases hw with rfl | rfl | rfl | rfl
  ·have e : AJ W T k 1 = k + 1 := by
    unfold AJ at ht ⊢
    simp [hx] at ht ⊢
    split at ht
    ·intro; omega
    ·omega
   have hx1 : x < W - 1 := by
    unfold AJ at ht; simp [hx] at ht
    split at ht
    ·assumption
    ·omega
   have c := ZG (W := W) (x := x + 1) (y := y) (by omega) (by omega)
   rw [e, show k + 1 = y * W + (x + 1) by omega]
   unfold AJ Cn
   simp [c.1]
   rw [if_pos (by omega)]; omega
  ·have hy1 : y < T - 1 := by
    unfold AJ at ht; simp [hy] at ht
    split at ht
    ·assumption
    ·omega
   have e : AJ W T k 2 = k + W := by unfold AJ; simp [hy]; intro h; omega
   have c := ZG (W := W) (x := x) (y := y + 1) (by omega) (by omega)
   have hm : (y + 1) * W = y * W + W := by rw [Int.add_mul, Int.one_mul]
   rw [e, show k + W = (y + 1) * W + x by omega]
   unfold AJ Cn
   simp [c.2]
   rw [if_pos (by omega)]; omega
  ·have hx1 : 0 < x := by
    unfold AJ at ht; simp [hx] at ht
    split at ht
    ·assumption
    ·omega
   have e : AJ W T k 3 = k - 1 := by unfold AJ; simp [hx]; intro h; omega
   have c := ZG (W := W) (x := x - 1) (y := y) (by omega) (by omega)
   rw [e, show k - 1 = y * W + (x - 1) by omega]
   unfold AJ Cn
   simp [c.1]
   omega
  ·have hy1 : 0 < y := by
    unfold AJ at ht; simp [hy] at ht
    split at ht
    ·assumption
    ·omega
   have e : AJ W T k 4 = k - W := by unfold AJ; simp [hy]; intro h; omega
   have c := ZG (W := W) (x := x) (y := y - 1) (by omega) (by omega)
   have hm : (y - 1) * W = y * W - W := by rw [Int.sub_mul, Int.one_mul]
   rw [e, show k - W = (y - 1) * W + x by omega]
   unfold AJ Cn
   simp [c.2]
   omega
 ·unfold AJ
  split
  ·omega
  split
  ·omega
  split
  ·omega
  split
  ·omega
  ·omega
def BU (W T : Int) (cs : List Bool) (ls : List Int) (cell way : Int) : Bool :=
 decide (0 ≤ cell ∧ cell < cs.length ∧ 0 ≤ AJ W T cell way ∧ atb cs cell = true ∧ atb cs (AJ W T cell way) = true ∧ ati ls cell = 0 ∧ ati ls (AJ W T cell way) = 0)
def C9 (W T : Int) (ls : List Int) (cell way : Int) : List Int := (ls.set cell.toNat way).set (AJ W T cell way).toNat (Cn way)
theorem AL (W T : Int) (ls : List Int) (cell way : Int) : (C9 W T ls cell way).length = ls.length := by simp [C9]
theorem MR {xs : List Int} {i k : Nat} {v : Int} (h : i < xs.length) : ati (xs.set i v) k = if k = i then v else ati xs k := by
 simp only [ati, Int.toNat_natCast, List.getD_eq_getElem?_getD, List.getElem?_set]
 by_cases e : i = k
 ·subst e; simp [h]
 ·rw [if_neg e, if_neg (fun e2 => e e2.symm)]
theorem N5 {W T : Int} {cs : List Bool} {ls : List Int} {cell way : Int} (hr : A0 W T cs = true) (hl : AO W T cs ls = true) (hf : BU W T cs ls cell way = true) : AO W T cs (C9 W T ls cell way) = true := by
 obtain ⟨w1, w2, t1, t2, l1, _⟩ := CM hr
 simp only [BU, decide_eq_true_eq] at hf
 obtain ⟨f0, f1, f2, f3, f4, f5, f6⟩ := hf
 obtain ⟨b1, b2, b3, b4, b5⟩ := DU (T := T) w1 f0 (by omega) f2
 obtain ⟨k1, k2, k3⟩ := Hr b2 b3
 simp only [AO, Bool.and_eq_true, decide_eq_true_eq, Co, AL] at hl ⊢
 obtain ⟨hlen, hall⟩ := hl
 refine ⟨hlen, fun k hk => ?_⟩
 have hc : cell.toNat < ls.length := by omega
 have hto : (AJ W T cell way).toNat < ls.length := by omega
 have at_ : ∀ j : Nat, ati (C9 W T ls cell way) j = if j = (AJ W T cell way).toNat then Cn way else if j = cell.toNat then way else ati ls j := by
  intro j
  unfold C9
  rw [MR (by simpa using hto), MR hc]
 have atI : ∀ j : Int, 0 ≤ j → ati (C9 W T ls cell way) j = if j = AJ W T cell way then Cn way else if j = cell then way else ati ls j := by
  intro j hj
  have := at_ j.toNat
  rw [show ((j.toNat : Nat) : Int) = j by omega] at this
  rw [this]
  by_cases e1 : j = AJ W T cell way
  ·rw [if_pos (by omega), if_pos e1]
  ·rw [if_neg (by omega), if_neg e1]
   by_cases e2 : j = cell
   ·rw [if_pos (by omega), if_pos e2]
   ·rw [if_neg (by omega), if_neg e2]
 have hkI := atI k (by omega)
 simp only [J5, decide_eq_true_eq]
 by_cases e1 : (k : Int) = AJ W T cell way
 ·right
  rw [if_pos e1] at hkI
  rw [hkI, e1, b1]
  refine ⟨k2, k3, f4, f0, f3, ?_⟩
  rw [atI cell f0, if_neg (fun e => b4 e.symm), if_pos rfl, k1]
 by_cases e2 : (k : Int) = cell
 ·right
  rw [if_neg e1, if_pos e2] at hkI
  rw [hkI, e2]
  refine ⟨b2, b3, f3, f2, f4, ?_⟩
  rw [atI _ f2, if_pos rfl]
 rw [if_neg e1, if_neg e2] at hkI
 rw [hkI]
 have := hall k (by omega)
 simp only [J5, decide_eq_true_eq] at this
 rcases this with h | ⟨g1, g2, g3, g4, g5, g6⟩
 ·left; exact h
 right
 refine ⟨g1, g2, g3, g4, g5, ?_⟩
 have hb := (Hr g1 g2).2
 rw [atI _ g4, if_neg (fun e => by rw [e] at g6; omega), if_neg (fun e => by rw [e] at g6; omega)]
 exact g6
def oX (rs : List RV) (n m : Nat) (ms : List Bool) (r : AV) (ups : List AV) (e : AExit) (E : ES) (H : AH) : Prop :=
 (e = .normal ∨ e = .ret) ∧ TD (Y3 E H rs) fun a => TD (fo H a) fun x => x.1 = r ∧ TD (cW H (il E (bD n m)) ms) fun y => y.1 = ups ∧ (x.2 ++ y.2).Nodup
attribute [simp] oX
theorem FV {P : Program} {C : Ctx} {t : TypeId} {d : TypeDesc} {i : TypeInfo} (hd : P.underlying t = some d) (hi : P.info? t = some i) {b p o : Nat} {cs : List AV} {us : List Value} {av : AV}
  (hr : RL C cs [] us) (hl : ldc (WQ d) i.size o cs = some av) :
  ∃ v, (∀ w, Cells w b p us → (Instr.loadAt t (.pointer (some ⟨b, p + o, none⟩))).run P w = .ok v w) ∧ R C av [] v := by
 simp only [Instr.loadAt, Instr.sureAddr, loadVar, Sem.run_bind, Sem.run_pure, Result.andThen_ok, Ng hd]
 cases hg : WQ d with
 | true =>
   rw [hg] at hl
   simp only [ldc, if_true] at hl
   split at hl
   ·rename_i hk
    cases hl
    have hw := hr.window o i.size hk
    have hlen : ((us.drop o).take i.size).length = i.size := by rw [hw.length]; simp; omega
    refine ⟨.agg ((us.drop o).take i.size).toArray, ?_, by rw [R]; exact ⟨_, rfl, hw⟩⟩
    intro w hc
    simp only [if_true, Sem.run_bind, Bj hi, Result.andThen_ok]
    have := run_loadCells_list (P := P) (w := w) ⟨b, p + o, none⟩ ((us.drop o).take i.size) (by
     intro j v hj
     rw [CL, Nat.add_assoc]
     refine hc (o + j) v ?_
     rw [List.getElem?_take] at hj
     split at hj
     ·rwa [List.getElem?_drop] at hj
     ·cases hj)
    rw [hlen] at this
    rw [this]; rfl
   ·cases hl
 | false =>
   rw [hg] at hl
   simp only [ldc, Bool.false_eq_true, if_false] at hl ⊢
   obtain ⟨S1, S2, S3, u, hS, hu, hR⟩ := hr.get hl
   obtain ⟨rfl, rfl, rfl⟩ : S1 = [] ∧ S2 = [] ∧ S3 = [] := by simpa using hS.symm
   exact ⟨u, fun w hc => by rw [run_load, hc o u hu], hR⟩
def nD : AK → Bool
 | .build .. => true
 | _ => false
def V9 (P : Program) (n : Nat) (ops : Array Oper) (i : Nat) : Bool := match ops[i]? with
 | some o => match F3 P n ops o with
   | some a => RG a.k || nD a.k
   | none => false
 | none => false
def Hy (P : Program) (n : Nat) (ops : Array Oper) : Nat → Array Bool → Option Plan
 | 0, listed => if (Region.ready .any ops listed).isEmpty then some .done else none
 | fuel + 1, listed => if (Region.ready .any ops listed).isEmpty then some .done else
   match (Region.ready .any ops listed).find? fun i => Region.free .any ops listed i && V9 P n ops i with
   | some i => (ops[i]?).bind fun o => (F3 P n ops o).bind fun a => (Hy P n ops fuel (listed.setIfInBounds i true)).bind fun p => some (.take a p)
   | none => HZ P n ops (fun i => Hy P n ops fuel (listed.setIfInBounds i true)) (Region.ready .any ops listed)
def gk (a : AOper) : Bool := match a.k, a.guard with
 | .load .., none => true
 | _, _ => false
def Wk (P : Program) (n : Nat) (ops : Array Oper) (i : Nat) : Bool := match ops[i]? with
 | some o => match F3 P n ops o with
   | some a => RG a.k || gk a
   | none => false
 | none => false
def GS (P : Program) (n : Nat) (ops : Array Oper) : Nat → Array Bool → Option (List AOper × Plan)
 | 0, listed => (Hy P n ops 0 listed).map fun p => ([], p)
 | fuel + 1, listed => match (Region.ready .any ops listed).find? fun i => Region.free .any ops listed i && Wk P n ops i with
   | some i => (ops[i]?).bind fun o => (F3 P n ops o).bind fun a => (GS P n ops fuel (listed.setIfInBounds i true)).bind fun r => some (a :: r.1, r.2)
   | none => (Hy P n ops (fuel + 1) listed).map fun p => ([], p)
def YF (o : AOper) (E : ES) : Prop := match o.k with
 | .load .. => ∃ x c cs i, o.xs = [x] ∧ evE E x = .vp c cs i ∧ c ≤ 1
 | _ => True
def Ha (P : Program) (md : Nat → List Bool) : List AOper → Plan → (ES → AH → Prop) → ES → AH → Prop
 | [], p, K, E, H => Cv P md p K E H
 | o :: os, p, K, E, H => YF o E ∧ Nu P md o E H (Ha P md os p K)
inductive BCode where
 | base (ac : ACode)
 | early (hs : List AOper) (p : Plan)
 | pure (hs : List AOper)
 | calm (hs : List (Bool × AOper))
 | seq (a b : BCode)
 | frz (t : Nat) (a : BCode)
 | block (id : Nat) (a : BCode)
 | cond (c : Opd) (a b : BCode)
 | loop (phs : List (Nat × Nat)) (live : List Nat) (a : BCode)
 | gc (phs : List (Nat × Nat)) (live : List Nat) (a : BCode)
 | lg (a : BCode)
def cB (P : Program) (n : Nat) : BCode → Code → Option BCode
 | .base _, c => (I8 P n c).map .base
 | .seq a b, .seq c d => (cB P n a c).bind fun x => (cB P n b d).bind fun y => some (.seq x y)
 | .calm _, .region _ ops true => if P.follows .mixedOrders && Region.noSelect ops then (GS P n ops ops.size (Array.replicate ops.size false)).bind fun r => match r.2 with
   | .done => some (.pure r.1)
   | _ => none
   else none
 | .early _ _, .region _ ops true => if P.follows .mixedOrders && Region.noSelect ops then (GS P n ops ops.size (Array.replicate ops.size false)).map fun r => .early r.1 r.2 else none
 | .pure _, .region _ ops true => if P.follows .mixedOrders && Region.noSelect ops then (GS P n ops ops.size (Array.replicate ops.size false)).bind fun r => match r.2 with
   | .done => some (.pure r.1)
   | _ => none
   else none
 | .frz t a, c => (cB P n a c).map (.frz t)
 | .gc _ _ a, c => cB P n a c
 | .lg a, c => cB P n a c
 | .block _ a, .block id c => (cB P n a c).map (.block id)
 | .cond _ a b, .cond c x y => if a8 n c then (cO 1 c).bind fun c => (cB P n a x).bind fun a => (cB P n b y).bind fun b => if Xx n c then some (.cond c a b) else none else none
 | .loop _ _ a, .loop c => (cB P n a c).map (.loop [] [])
 | _, _ => none
def EX : BCode → BCode
 | .base ac => .base (erase ac)
 | .seq a b => .seq (EX a) (EX b)
 | .frz t a => .frz t (EX a)
 | .calm hs => .pure (hs.map (·.2))
 | .block id a => .block id (EX a)
 | .cond c a b => .cond c (EX a) (EX b)
 | .loop _ _ a => .loop [] [] (EX a)
 | .gc _ _ a => EX a
 | .lg a => EX a
 | b => b
def ZH : AV → Option AV
 | .v x => some (.v x)
 | .sl c sz es => if c ≤ 1 then some (.sl 1 sz (vwL 1 es)) else none
 | _ => none
def gl : List AV → Option (List AV)
 | [] => some []
 | a :: l => match ZH a, gl l with
   | some x, some y => some (x :: y)
   | _, _ => none
def ZI (t : Nat) (K : ES → AH → Prop) (E : ES) (H : AH) : Prop :=
 ∃ sz id o cs cs', get E t = .lp sz id 0 o ∧ H[id]? = some (some (.box cs)) ∧ gl cs = some cs' ∧ K (Ec (B9 E) (some t) (.vp 1 cs' o)) (AG [id] (BE H))
def gm (o : AOper) (E : ES) (H : AH) (K : ES → AH → Prop) : Prop :=
 ∃ d op x y k a b, o = ⟨some d, .bin op 0, [x, y], none⟩ ∧ (op = .quo ∨ op = .rem) ∧ evE E x = .v (.int k a) ∧ evE E y = .v (.int k b) ∧ 1 ≤ b ∧ K (Ec E (some d) .bot) H
def eZ (P : Program) (md : Nat → List Bool) : List (Bool × AOper) → (ES → AH → Prop) → ES → AH → Prop
 | [], K, E, H => K E H
 | (false, o) :: os, K, E, H => Nu P md o E H (eZ P md os K)
 | (true, o) :: os, K, E, H => gm o E H (eZ P md os K)
def MK (P : Program) (md : Nat → List Bool) : BCode → (AExit → ES → AH → Prop) → ES → AH → Prop
 | .base ac, Q, E, H => awp P md ac Q E H
 | .early hs p, Q, E, H => Ha P md hs p (Q .normal) E H
 | .pure hs, Q, E, H => Hw P md hs (Q .normal) E H
 | .calm hs, Q, E, H => eZ P md hs (Q .normal) E H
 | .seq a b, Q, E, H => MK P md a (X0 (MK P md b Q) Q) E H
 | .frz t a, Q, E, H => ZI t (MK P md a Q) E H
 | .block id a, Q, E, H => MK P md a (PY id Q) E H
 | .cond c a b, Q, E, H => ∃ t, evE E c = .v (.bool t) ∧ (t = true → MK P md a Q E H) ∧ (t = false → MK P md b Q E H)
 | .loop phs live a, Q, E, H => GN phs live E H (EO phs live (MK P md a) Q)
 | .gc phs live a, Q, E, H => GN phs live E H (MK P md a Q)
 | .lg a, Q, E, H => Lg (MK P md a Q) E H
section
variable {g : Env} {T : List AV} {H : AH} {io : Nat → Option (Nat × Nat)} {B : Nat → List Nat} {tmps : Array Value} {w : World}
theorem jL {C C' : Ctx} (hw : C'.w = C.w) (hbad : ∀ c x, c ≤ 1 → ¬ C.bad c x → ¬ C'.bad 1 x) : ∀ (a a' : AV) (u : Value), ZH a = some a' → R C a [] u → R (C'.at 1) a' [] u
 | .v x, a', u, hf, hr => by
   simp only [ZH, Option.some.injEq] at hf; subst hf
   rw [R] at *; exact hr
 | .sl c sz es, a', u, hf, hr => by
   simp only [ZH] at hf
   split at hf
   case isFalse => cases hf
   rename_i hc
   cases hf
   have h1 := hr.closeS
   have h2 := iE (C' := C') 1 (.sl c sz es) (C.at c) (fun _ => rfl) hw (fun d b _ hb => by
    simp only [Ctx.at, Classical.not_imp] at hb
    exact hbad c b hc hb.2) [] u h1 (by simp)
   simpa [vw] using h2
 | .bot, a', u, hf, hr => by simp [ZH] at hf
 | .vp .., a', u, hf, hr => by simp [ZH] at hf
 | .ls .., a', u, hf, hr => by simp [ZH] at hf
 | .lw .., a', u, hf, hr => by simp [ZH] at hf
 | .lp .., a', u, hf, hr => by simp [ZH] at hf
 | .os .., a', u, hf, hr => by simp [ZH] at hf
 | .op .., a', u, hf, hr => by simp [ZH] at hf
 | .fn .., a', u, hf, hr => by simp [ZH] at hf
 | .agg .., a', u, hf, hr => by simp [ZH] at hf
 | .tup .., a', u, hf, hr => by simp [ZH] at hf
theorem cj {C C' : Ctx} (hw : C'.w = C.w) (hbad : ∀ c x, c ≤ 1 → ¬ C.bad c x → ¬ C'.bad 1 x) : ∀ (l l' : List AV) (us : List Value), gl l = some l' → RL C l [] us → RL (C'.at 1) l' [] us
 | [], l', us, hf, hr => by
   simp only [gl, Option.some.injEq] at hf; subst hf
   rw [RL] at *; exact hr
 | a :: l, l', us, hf, hr => by
   simp only [gl] at hf
   split at hf
   case h_2 => cases hf
   rename_i x y hx hy
   cases hf
   rw [RL] at *
   obtain ⟨S1, S2, u, us', hS, rfl, h1, h2⟩ := hr
   obtain ⟨rfl, rfl⟩ : S1 = [] ∧ S2 = [] := by simpa using hS.symm
   exact ⟨[], [], u, us', rfl, rfl, jL hw hbad a x u hx h1, cj hw hbad l y us' hy h2⟩
theorem Rel.freeze (h : Rel g T H io B tmps w) {sz id o : Nat} {cs cs' : List AV} {u : Value} (hu : R (ctx g H io B w) (.lp sz id 0 o) [] u) (hl : H[id]? = some (some (.box cs))) (hf : gl cs = some cs') :
  ∃ io' B', Rel g (purgeL T) (AG [id] (BE H)) io' B' tmps w ∧ R (ctx g (AG [id] (BE H)) io' B' w) (.vp 1 cs' o) [] u := by
 have hset := h.settle true [id] (B id) (fun x hx => ⟨id, by simp, hx⟩) (by simp) w (Kept.refl _ _ _) [] 0 (by simp) (by simp) (by simp) (by simp) (by simp) (by simp)
 obtain ⟨s1, _, _, _⟩ := hset
 have e : B8 (prs []) (SN 0 (AG [id] (if true = true then BE H else H))) = AG [id] (BE H) := by simp [prs, B8, SN]
 rw [e] at s1
 refine ⟨_, _, s1, ?_⟩
 obtain ⟨b, p, us, h1, h2, h3, h4, h5, h6⟩ := h.rows id _ hl
 rw [R] at hu
 obtain ⟨_, b', p', hi, rfl⟩ := hu
 simp only [ctx] at hi
 rw [h1] at hi; cases hi
 have hsub : ∀ i x, x ∈ bQ [] [id] B i → x ∈ B i ∧ i ≠ id := by
  intro i x hx
  simp only [bQ, K9, List.find?_nil] at hx
  split at hx
  ·cases hx
  ·rename_i hni
   exact ⟨hx, by simpa using hni⟩
 rw [R]
 refine ⟨rfl, b, p, us, by simp, h3, ?_, h5, ?_⟩
 ·rintro ⟨i, hx⟩
  obtain ⟨hx1, hx2⟩ := hsub i b hx
  exact hx2 (h.dj _ _ _ hx1 (by rw [h2]; simp))
 ·refine cj (C := ctx g H io B w) (C' := ctx g (AG [id] (BE H)) (ioQ [] io) (bQ [] [id] B) w) rfl ?_ cs cs' us hf h6
  intro c x hc hx
  rintro ⟨i, hi2⟩
  obtain ⟨hx1, _⟩ := hsub i x hi2
  have : c = 0 ∨ c = 1 := by omega
  rcases this with rfl | rfl
  ·exact hx (.inl ⟨i, hx1⟩)
  ·exact hx ⟨i, hx1⟩
end
section
variable {P : Program} {md : Nat → List Bool} {g : Env} {n : Nat} {gh : Array Value} {E : ES} {H : AH} {io : Nat → Option (Nat × Nat)} {B : Nat → List Nat} {w : World} {a : Act}
def RN (g : Env) (H : AH) (B : Nat → List Nat) (w : World) : Env := ⟨w, (List.range H.length).flatMap B, g.forb⟩
theorem Pe (h : RelE n gh g E H io B a w) (x : Nat) : x ∈ (RN g H B w).lent ↔ ∃ id, x ∈ B id := by
 simp only [RN, List.mem_flatMap, List.mem_range]
 constructor
 ·rintro ⟨id, _, hx⟩; exact ⟨id, hx⟩
 ·rintro ⟨id, hx⟩
  refine ⟨id, ?_, hx⟩
  rcases Nat.lt_or_ge id H.length with h1 | h1
  ·exact h1
  ·have := h.rel.dead id (fun row hl => by unfold Live at hl; rw [List.getElem?_eq_none h1] at hl; cases hl)
   rw [this] at hx; cases hx
theorem RelE.rebase (h : RelE n gh g E H io B a w) : RelE n gh (RN g H B w) E H io B a w := by
 refine ⟨h.size, ?_, h.defers⟩
 have hr := h.rel
 exact ⟨hr.size, hr.tmps, hr.rows, hr.dead, hr.io, hr.nd, hr.dj, hr.lt, fun id x hx => .inr ((Pe h x).2 ⟨id, hx⟩), Kept.refl _ _ _, hr.gbAt fun x hx => by
  rcases hx with hx | hx
  ·exact .inl ((Pe h x).1 hx)
  ·exact .inr hx⟩
theorem RelE.unbase (h0 : RelE n gh g E H io B a w) {E' : ES} {H' : AH} {io' : Nat → Option (Nat × Nat)} {B' : Nat → List Nat} {w' : World} {a' : Act} (h : RelE n gh (RN g H B w) E' H' io' B' a' w') : RelE n gh g E' H' io' B' a' w' := by
 refine ⟨h.size, ?_, h.defers⟩
 have hr := h.rel
 have hk := h0.rel.kept
 refine ⟨hr.size, hr.tmps, hr.rows, hr.dead, hr.io, hr.nd, hr.dj, hr.lt, ?_, ?_, h0.rel.gb⟩
 ·intro id x hx
  rcases hr.own id x hx with h1 | h1
  ·exact .inl (Nat.le_trans hk.size h1)
  ·obtain ⟨id', h2⟩ := (Pe h0 x).1 h1
   exact h0.rel.own id' x h2
 ·refine hk.trans ⟨hr.kept.os, hr.kept.tape, hr.kept.output, hr.kept.size, ?_, hr.kept.room⟩
  intro k hk1 hk2
  refine hr.kept.block k (Nat.lt_of_lt_of_le hk1 hk.size) ?_
  intro hm
  obtain ⟨id', h2⟩ := (Pe h0 k).1 hm
  rcases h0.rel.own id' k h2 with h3 | h3
  ·omega
  ·exact hk2 h3
def ck (g : Env) (w : World) : Prop := ∀ k, k < g.w0.heap.size → k ∉ g.lent → w.heap[k]? = g.w0.heap[k]?
theorem RelE.held (h : RelE n gh g E H io B a w) : ck g w := fun k hk hn => h.rel.kept.block k hk hn
theorem U9 (h : RelE n gh g E H io B a w) {ops : Array Oper} {o : Oper} {ao : AOper} (hc : F3 P n ops o = some ao) (hnk : RG ao.k = true ∨ nD ao.k = true) {K : ES → AH → Prop} (hk : Nu P md ao E H K) :
  ∃ v, Yields P ops o v a ∧ ∃ E1, RelE n gh g E1 H io B (a.put o.dst v) w ∧ K E1 H := by
 refine FU h hc ?_ hk
 rcases hnk with hnk | hbd
 ·exact hnk
 ·obtain ⟨dst, k, xs, gd⟩ := ao
  cases k <;> simp_all [nD, RG]
theorem TG (hg : ∀ x, g.forb x → x < g.w0.heap.size) {ops : Array Oper} (hsel : Region.noSelect ops = true) {Q : Exit → Act → World → Prop} (hQ : ∀ c a w, ¬ Q (.panic c) a w) : ∀ (fuel : Nat) (listed : Array Bool) (p : Plan) {E : ES} {H : AH} {io : Nat → Option (Nat × Nat)} {B : Nat → List Nat} {w : World} {a : Act} {K : ES → AH → Prop},
  Hy P n ops fuel listed = some p → RelE n gh g E H io B a w → Cv P md p K E H → (∀ E' H' io' B' a' w', K E' H' → RelE n gh g E' H' io' B' a' w' → Q .normal a' w') → wpAnyH P .any ops Q (ck g) fuel listed a w
 | 0, listed, p, E, H, io, B, w, a, K, hp, h, hk, hq => by
   simp only [Hy] at hp
   split at hp
   case isFalse => cases hp
   rename_i hr
   cases hp
   exact wpAnyH_done (by simpa using hr) (hq _ _ _ _ _ _ hk h) 0
 | fuel + 1, listed, p, E, H, io, B, w, a, K, hp, h, hk, hq => by
   simp only [Hy] at hp
   split at hp
   ·rename_i hr
    cases hp
    exact wpAnyH_done (by simpa using hr) (hq _ _ _ _ _ _ hk h) _
   ·rename_i hr
    split at hp
    ·rename_i i hi
     have h1 := List.find?_some hi
     have h2 := List.mem_of_find?_eq_some hi
     simp only [Bool.and_eq_true] at h1
     simp only [Option.bind_eq_some_iff, Option.some.injEq] at hp
     obtain ⟨o, ho, ao, hao, q, hq', rfl⟩ := hp
     have hnk : RG ao.k = true ∨ nD ao.k = true := by
      have := h1.2
      simpa [V9, ho, hao] using this
     obtain ⟨v, hy, E1, hR, hK⟩ := U9 h hao hnk hk
     exact wpAnyH_take ho hsel h1.1 (by simpa using h2) (fun c a w hp => absurd hp (hQ _ _ _)) hy.yieldsIf h.held (TG hg hsel hQ fuel _ q hq' hR hK hq)
    ·refine wpAnyH_all rfl (by simpa using hr) ?_
     intro i hi
     obtain ⟨o, ao, q, ho, hao, hq', hop⟩ := Y0 hp hk i hi
     exact TE h hg ho hao hop fun E' H' io' B' a' w' hK hR _ => ⟨hR.held, TG hg hsel hQ fuel _ q hq' hR hK hq⟩
theorem aG {dst : Option Nat} {op : Op} {ty : TypeId} {pos : String} {af : Array Edge} {gd : Option (Nat × Bool)} {ms : List Bool} {ag : Bool} {k : Nat} {xs : List Opd} (h : cOp P ⟨dst, op, ty, pos, af, gd⟩ ms = some (.load ag k, xs)) :
  ∃ t x d i x', op = .load t x ∧ P.underlying t = some d ∧ P.info? t = some i ∧ cO 1 x = some x' ∧ ag = WQ d ∧ k = i.size ∧ xs = [x'] := by
 cases op <;> (try (simp [cOp, Option.bind_eq_some_iff] at h; done))
 case load t x =>
  simp only [cOp, Option.bind_eq_some_iff, Option.some.injEq, Prod.mk.injEq, AK.load.injEq] at h
  obtain ⟨d, hd, i, hi, x', hx, ⟨rfl, rfl⟩, rfl⟩ := h
  exact ⟨t, x, d, i, x', rfl, hd, hi, hx, rfl, rfl, rfl⟩
 case convert s t x =>
  exfalso
  simp only [cOp, Option.bind_eq_some_iff, Option.some.injEq, Prod.mk.injEq] at h
  obtain ⟨_, _, _, _, k, hk, _, _, rfl, _⟩ := h
  simp at hk
 case binOp op t x y yt =>
  simp only [cOp, Option.bind_eq_some_iff] at h
  obtain ⟨d, _, h⟩ := h
  split at h <;> simp [Option.bind_eq_some_iff] at h
 case indexAddr t x y =>
  simp only [cOp, Option.bind_eq_some_iff] at h
  obtain ⟨d, _, h⟩ := h
  split at h <;> simp [Option.bind_eq_some_iff] at h
 case makeFunc fn first cap => cases fn <;> simp [cOp, Option.bind_eq_some_iff] at h
 case slice t x lo hi mx =>
  simp only [cOp, Option.bind_eq_some_iff] at h
  obtain ⟨d, _, _, _, _, _, _, _, _, _, h⟩ := h
  cases d <;> simp [Option.bind_eq_some_iff] at h
 case index t x y =>
  simp only [cOp, Option.bind_eq_some_iff] at h
  obtain ⟨d, _, _, _, _, _, h⟩ := h
  cases d <;> simp [Option.bind_eq_some_iff] at h
 case call c =>
  obtain ⟨callee, args, ats⟩ := c
  cases callee
  case invoke => simp [cOp] at h
  case builtin b => cases b <;> simp [cOp, Option.bind_eq_some_iff] at h
  case value x => cases x <;> simp [cOp, Option.bind_eq_some_iff] at h
theorem bL (h : RelE n gh g E H io B a w) (hw : w.heap = g.w0.heap) (hB : ∀ x, x ∈ g.lent → ∃ id, x ∈ B id) {ops : Array Oper} {o : Oper} {ao : AOper} (hc : F3 P n ops o = some ao) (hld : gk ao = true) (hv : YF ao E) {K : ES → AH → Prop} (hk : Nu P md ao E H K) :
  ∃ v, YieldsIf P ops (ck g) o v a ∧ ∃ E1, RelE n gh g E1 H io B (a.put o.dst v) w ∧ K E1 H := by
 obtain ⟨c1, hdst, c3⟩ := KN hc
 obtain ⟨dst, k, xs, gd⟩ := ao
 simp only at c1
 cases k <;> simp only [gk] at hld <;> try (cases hld; done)
 rename_i ag kk
 cases gd with
 | some s => cases hld
 | none =>
 obtain ⟨x, c, cs, j, rfl, hx, hcc⟩ := hv
 have hk' : TD (aop (.load ag kk) [evE E x] H) fun r => K (Ec E dst r.1) r.2 := hk
 rw [hx] at hk'
 simp only [aop, ald, TD, Option.map_eq_some_iff] at hk'
 obtain ⟨r, ⟨av, hav, rfl⟩, hK⟩ := hk'
 simp only [F3, Option.bind_eq_some_iff] at hc
 obtain ⟨⟨k', xs'⟩, hop, hc⟩ := hc
 split at hc
 case isFalse => cases hc
 rename_i hcond
 simp only [fA, Bool.and_eq_true, Bool.not_eq_true'] at hcond
 obtain ⟨⟨⟨d1, d2⟩, d3⟩, d4⟩ := hcond
 obtain ⟨hgd, e2, e3⟩ : o.guard = none ∧ k' = .load ag kk ∧ xs' = [x] := by
  split at hc
  ·rename_i hg2
   simp only [Option.some.injEq, AOper.mk.injEq] at hc
   exact ⟨hg2, hc.2.1, hc.2.2.1⟩
  ·simp only [Option.bind_eq_some_iff] at hc
   obtain ⟨s, _, hc⟩ := hc
   split at hc
   ·simp at hc
   ·cases hc
 subst e2 e3
 have heval : execOp a.eval o = execOp (C8 a gh).eval o := execOp_congr o (by intro cs b he; rw [he] at d3; simp [bA] at d3) fun x hx => (RH h.size (Array.all_eq_true_iff_forall_mem.1 d1 x hx)).symm
 have hrel : Rel g (toT (n + gh.size) E) H io B (C8 a gh).tmps w := h.rel
 obtain ⟨odst, op, type, pos, after, guard⟩ := o
 simp only at c1 hgd hdst
 obtain ⟨t, x0, d, i, x', rfl, hd, hi, h1, rfl, rfl, hxs⟩ := aG hop
 simp only [List.cons.injEq, and_true] at hxs
 subst hxs
 have r1 := Cu hrel h1
 rw [TU (c3 x (by simp)), hx] at r1
 have r1' := r1
 rw [R] at r1'
 obtain ⟨_, b, p, us, hu, hb, hbad, hcl, hr⟩ := r1'
 obtain ⟨v, h2, h3⟩ := FV (P := P) (b := b) (p := p) hd hi hr.open hav
 have hnb : b ∉ g.lent := by
  intro hm
  obtain ⟨id, hid⟩ := hB b hm
  have : c = 0 ∨ c = 1 := by omega
  rcases this with rfl | rfl
  ·exact hbad (.inl ⟨id, hid⟩)
  ·exact hbad ⟨id, hid⟩
 refine ⟨v, .inl ⟨by simp [Region.wanted, hgd], ?_⟩, _, h.put hdst h3, by subst c1; exact hK⟩
 intro w' hw'
 rw [heval]
 have hblk : w'.heap[b]? = w.heap[b]? := by
  rw [hw]
  exact hw' b (by rw [← hw]; exact hb) hnb
 have := h2 w' (hcl.of_block hblk)
 simp only [execOp, hu]
 simp [this]
theorem Wl (hg : ∀ x, g.forb x → x < g.w0.heap.size) {ops : Array Oper} (hsel : Region.noSelect ops = true) {Q : Exit → Act → World → Prop} (hQ : ∀ c a w, ¬ Q (.panic c) a w) : ∀ (fuel : Nat) (listed : Array Bool) (hs : List AOper) (p : Plan) {E : ES} {H : AH} {io : Nat → Option (Nat × Nat)} {B : Nat → List Nat} {w : World} {a : Act} {K : ES → AH → Prop},
  GS P n ops fuel listed = some (hs, p) → RelE n gh g E H io B a w → w.heap = g.w0.heap → (∀ x, x ∈ g.lent → ∃ id, x ∈ B id) → Ha P md hs p K E H → (∀ E' H' io' B' a' w', K E' H' → RelE n gh g E' H' io' B' a' w' → Q .normal a' w') → wpAnyH P .any ops Q (ck g) fuel listed a w
 | 0, listed, hs, p, E, H, io, B, w, a, K, hp, h, hw, hB, hk, hq => by
   simp only [GS, Option.map_eq_some_iff, Prod.mk.injEq] at hp
   obtain ⟨p', hp, rfl, rfl⟩ := hp
   exact TG hg hsel hQ 0 listed p' hp h hk hq
 | fuel + 1, listed, hs, p, E, H, io, B, w, a, K, hp, h, hw, hB, hk, hq => by
   simp only [GS] at hp
   split at hp
   ·rename_i i hi
    have h1 := List.find?_some hi
    have h2 := List.mem_of_find?_eq_some hi
    simp only [Bool.and_eq_true] at h1
    simp only [Option.bind_eq_some_iff, Option.some.injEq, Prod.mk.injEq] at hp
    obtain ⟨o, ho, ao, hao, ⟨hs', p'⟩, hr, rfl, rfl⟩ := hp
    obtain ⟨hv, hk⟩ := hk
    have hearly : (RG ao.k || gk ao) = true := by
     have := h1.2
     simpa [Wk, ho, hao] using this
    rw [Bool.or_eq_true] at hearly
    rcases hearly with hnk | hld
    ·obtain ⟨v, hy, E1, hR, hK⟩ := FU h hao hnk hk
     exact wpAnyH_take ho hsel h1.1 (by simpa using h2) (fun c a w hp => absurd hp (hQ _ _ _)) hy.yieldsIf h.held (Wl hg hsel hQ fuel _ hs' p' hr hR hw hB hK hq)
    ·obtain ⟨v, hy, E1, hR, hK⟩ := bL h hw hB hao hld hv hk
     exact wpAnyH_take ho hsel h1.1 (by simpa using h2) (fun c a w hp => absurd hp (hQ _ _ _)) hy h.held (Wl hg hsel hQ fuel _ hs' p' hr hR hw hB hK hq)
   ·simp only [Option.map_eq_some_iff, Prod.mk.injEq] at hp
    obtain ⟨p', hp, rfl, rfl⟩ := hp
    exact TG hg hsel hQ (fuel + 1) listed p' hp h hk hq
theorem fW {T : List AV} {tmps : Array Value} (h : Rel g T H io B tmps w) {t : TypeId} {d : TypeDesc} {i : TypeInfo} (hd : P.underlying t = some d) (hi : P.info? t = some i) {x av : AV} {u : Value}
  (hx : R (ctx g H io B w) x [] u) (hop : ald H (WQ d) i.size x = some av) : ∃ v, (∀ w', w'.heap = w.heap → (Instr.loadAt t u).run P w' = .ok v w') ∧ R (ctx g H io B w) av [] v := by
 have cell : ∀ {b p : Nat} {us : List Value} {w' : World}, Cells w b p us → w'.heap = w.heap → Cells w' b p us := fun hc hw => hc.of_block (by rw [hw])
 unfold ald at hop
 split at hop
 ·rename_i c cs o
  rw [R] at hx
  obtain ⟨_, b, p, us, rfl, _, _, hc, hr⟩ := hx
  obtain ⟨v, h1, h2⟩ := FV (P := P) (b := b) (p := p) hd hi hr.open hop
  exact ⟨v, fun w' hw => h1 w' (cell hc hw), h2⟩
 ·rename_i sz id n o
  rw [R] at hx
  obtain ⟨_, b, p, hio, rfl⟩ := hx
  simp only [ctx] at hio
  split at hop
  ·rename_i cs hl
   split at hop
   case isFalse => cases hop
   rename_i hn
   subst hn
   obtain ⟨b', p', us, h1, h2, h3, h4, h5, h6⟩ := h.rows id _ hl
   rw [hio] at h1; cases h1
   obtain ⟨v, h7, h8⟩ := FV (P := P) (b := b) (p := p) hd hi h6 hop
   exact ⟨v, fun w' hw => by simp only [Nat.zero_mul, Nat.add_zero]; exact h7 w' (cell h5 hw), h8⟩
  ·rename_i sz' es hl
   split at hop
   case isFalse => cases hop
   rename_i hn
   subst hn
   split at hop
   case h_2 => cases hop
   rename_i e he
   rcases h.rows id _ hl with ⟨h0, _, _⟩ | ⟨b', p', us, S, h1, h2, h3, h4, h5, h6, h7⟩
   ·subst h0; simp at he
   ·rw [hio] at h1; cases h1
    obtain ⟨S1, S2, S3, us1, us2, us3, rfl, rfl, e1, e2, _, e3, _⟩ := ML h6 h7 he
    have hv := vwL_ok (C' := ctx g H io B w) 2 _ ((ctx g H io B w).at 0) (fun _ => rfl) rfl (fun d b _ hb => h.bad2 0 b (by simp only [Ctx.at, Classical.not_imp] at hb; exact hb.2)) _ _ e3 (fun x hx => h.not_head h2 hio hl (by simp [hx]))
    have hc := h5.right.left
    rw [e1] at hc
    obtain ⟨v, h8, h9⟩ := FV (P := P) hd hi hv.open hop
    exact ⟨v, fun w' hw => h8 w' (cell hc hw), h9⟩
  ·cases hop
 ·cases hop
theorem YG (h : RelE n gh g E H io B a w) {ops : Array Oper} {o : Oper} {ao : AOper} (hc : F3 P n ops o = some ao) (hld : gk ao = true) {K : ES → AH → Prop} (hk : Nu P md ao E H K) :
  ∃ v, YieldsIf P ops (fun w' => w'.heap = w.heap) o v a ∧ ∃ E1, RelE n gh g E1 H io B (a.put o.dst v) w ∧ K E1 H := by
 obtain ⟨c1, hdst, c3⟩ := KN hc
 obtain ⟨dst, k, xs, gd⟩ := ao
 simp only at c1
 cases k <;> simp only [gk] at hld <;> try (cases hld; done)
 rename_i ag kk
 cases gd with
 | some s => cases hld
 | none =>
 simp only [F3, Option.bind_eq_some_iff] at hc
 obtain ⟨⟨k', xs'⟩, hop, hc⟩ := hc
 split at hc
 case isFalse => cases hc
 rename_i hcond
 simp only [fA, Bool.and_eq_true, Bool.not_eq_true'] at hcond
 obtain ⟨⟨⟨d1, d2⟩, d3⟩, d4⟩ := hcond
 obtain ⟨hgd, e2, e3⟩ : o.guard = none ∧ k' = .load ag kk ∧ xs' = xs := by
  split at hc
  ·rename_i hg2
   simp only [Option.some.injEq, AOper.mk.injEq] at hc
   exact ⟨hg2, hc.2.1, hc.2.2.1⟩
  ·simp only [Option.bind_eq_some_iff] at hc
   obtain ⟨s, _, hc⟩ := hc
   split at hc
   ·simp at hc
   ·cases hc
 subst e2 e3
 have heval : execOp a.eval o = execOp (C8 a gh).eval o := execOp_congr o (by intro cs b he; rw [he] at d3; simp [bA] at d3) fun x hx => (RH h.size (Array.all_eq_true_iff_forall_mem.1 d1 x hx)).symm
 have hrel : Rel g (toT (n + gh.size) E) H io B (C8 a gh).tmps w := h.rel
 obtain ⟨odst, op, type, pos, after, guard⟩ := o
 simp only at c1 hgd hdst
 obtain ⟨t, x0, d, i, x', rfl, hd, hi, h1, rfl, rfl, rfl⟩ := aG hop
 have hk' : TD (aop (.load (WQ d) i.size) [evE E x'] H) fun r => K (Ec E dst r.1) r.2 := hk
 simp only [aop, TD, Option.map_eq_some_iff] at hk'
 obtain ⟨r, ⟨av, hav, rfl⟩, hK⟩ := hk'
 have r1 := Cu hrel h1
 rw [TU (c3 x' (by simp))] at r1
 obtain ⟨v, h2, h3⟩ := fW (P := P) hrel hd hi r1 hav
 refine ⟨v, .inl ⟨by simp [Region.wanted, hgd], ?_⟩, _, h.put hdst h3, by subst c1; exact hK⟩
 intro w' hw'
 rw [heval]
 have := h2 w' hw'
 simp only [execOp]
 simp [this]
theorem ZJ {ops : Array Oper} (hsel : Region.noSelect ops = true) {Q : Exit → Act → World → Prop} (hQ : ∀ c a w, ¬ Q (.panic c) a w) (w : World) : ∀ (fuel : Nat) (listed : Array Bool) (hs : List AOper) {E : ES} {a : Act} {K : ES → AH → Prop},
  GS P n ops fuel listed = some (hs, .done) → RelE n gh g E H io B a w → Hw P md hs K E H → (∀ E' H' a', K E' H' → H' = H → RelE n gh g E' H io B a' w → Q .normal a' w) → wpAnyH P .any ops Q (fun w' => w'.heap = w.heap) fuel listed a w
 | 0, listed, hs, E, a, K, hp, h, hk, hq => by
   simp only [GS, Option.map_eq_some_iff, Prod.mk.injEq] at hp
   obtain ⟨p', hp, rfl, rfl⟩ := hp
   simp only [Hy] at hp
   split at hp
   case isFalse => cases hp
   rename_i hr
   exact wpAnyH_done (by simpa using hr) (hq _ _ _ hk rfl h) 0
 | fuel + 1, listed, hs, E, a, K, hp, h, hk, hq => by
   simp only [GS] at hp
   split at hp
   ·rename_i i hi
    have h1 := List.find?_some hi
    have h2 := List.mem_of_find?_eq_some hi
    simp only [Bool.and_eq_true] at h1
    simp only [Option.bind_eq_some_iff, Option.some.injEq, Prod.mk.injEq] at hp
    obtain ⟨o, ho, ao, hao, ⟨hs', p'⟩, hr, rfl, rfl⟩ := hp
    have hearly : (RG ao.k || gk ao) = true := by
     have := h1.2
     simpa [Wk, ho, hao] using this
    rw [Bool.or_eq_true] at hearly
    rcases hearly with hnk | hld
    ·obtain ⟨v, hy, E1, hR, hK⟩ := FU h hao hnk hk
     exact wpAnyH_take ho hsel h1.1 (by simpa using h2) (fun c a w hp => absurd hp (hQ _ _ _)) hy.yieldsIf rfl (ZJ hsel hQ w fuel _ hs' hr hR hK hq)
    ·obtain ⟨v, hy, E1, hR, hK⟩ := YG h hao hld hk
     exact wpAnyH_take ho hsel h1.1 (by simpa using h2) (fun c a w hp => absurd hp (hQ _ _ _)) hy rfl (ZJ hsel hQ w fuel _ hs' hr hR hK hq)
   ·simp only [Option.map_eq_some_iff, Prod.mk.injEq] at hp
    obtain ⟨p', hp, rfl, rfl⟩ := hp
    simp only [Hy] at hp
    split at hp
    ·rename_i hr
     exact wpAnyH_done (by simpa using hr) (hq _ _ _ hk rfl h) _
    ·split at hp
     ·simp only [Option.bind_eq_some_iff, Option.some.injEq] at hp
      obtain ⟨_, _, _, _, _, _, hp⟩ := hp
      cases hp
     ·rename_i hr _
      exfalso
      revert hp hr
      cases Region.ready .any ops listed with
      | nil => simp [HZ]
      | cons r rs =>
        intro hr hp
        simp only [HZ, Option.bind_eq_some_iff, Option.some.injEq] at hp
        obtain ⟨_, _, _, _, _, _, _, _, hp⟩ := hp
        cases hp
theorem jM {dst : Option Nat} {op : Op} {ty : TypeId} {pos : String} {af : Array Edge} {gd : Option (Nat × Bool)} {ms : List Bool} {bo : BinOp} {kd : Nat} {xs : List Opd} (h : cOp P ⟨dst, op, ty, pos, af, gd⟩ ms = some (.bin bo kd, xs)) :
  ∃ t x y yt d x' y', op = .binOp bo t x y yt ∧ P.underlying t = some d ∧ kdS P t d = some kd ∧ cO 1 x = some x' ∧ cO 1 y = some y' ∧ xs = [x', y'] := by
 cases op <;> (try (simp [cOp, Option.bind_eq_some_iff] at h; done))
 case convert s t x =>
  exfalso
  simp only [cOp, Option.bind_eq_some_iff, Option.some.injEq, Prod.mk.injEq] at h
  obtain ⟨_, _, _, _, k, hk, _, _, rfl, _⟩ := h
  simp at hk
 case binOp op t x y yt =>
  simp only [cOp, Option.bind_eq_some_iff] at h
  obtain ⟨d, hd, h⟩ := h
  split at h
  ·simp [Option.bind_eq_some_iff] at h
  ·simp only [Option.bind_eq_some_iff, Option.some.injEq, Prod.mk.injEq, AK.bin.injEq] at h
   obtain ⟨kd', hk, x', h1, y', h2, ⟨rfl, rfl⟩, rfl⟩ := h
   exact ⟨t, x, y, yt, d, x', y', rfl, hd, hk, h1, h2, rfl⟩
 case indexAddr t x y =>
  simp only [cOp, Option.bind_eq_some_iff] at h
  obtain ⟨d, _, h⟩ := h
  split at h <;> simp [Option.bind_eq_some_iff] at h
 case makeFunc fn first cap => cases fn <;> simp [cOp, Option.bind_eq_some_iff] at h
 case slice t x lo hi mx =>
  simp only [cOp, Option.bind_eq_some_iff] at h
  obtain ⟨d, _, _, _, _, _, _, _, _, _, h⟩ := h
  cases d <;> simp [Option.bind_eq_some_iff] at h
 case index t x y =>
  simp only [cOp, Option.bind_eq_some_iff] at h
  obtain ⟨d, _, _, _, _, _, h⟩ := h
  cases d <;> simp [Option.bind_eq_some_iff] at h
 case call c =>
  obtain ⟨callee, args, ats⟩ := c
  cases callee
  case invoke => simp [cOp] at h
  case builtin b => cases b <;> simp [cOp, Option.bind_eq_some_iff] at h
  case value x => cases x <;> simp [cOp, Option.bind_eq_some_iff] at h
theorem fX {op : BinOp} {t : TypeId} {ox oy : Operand} {k : IntKind} {a b : Int} (hop : op = .quo ∨ op = .rem) (hb : 1 ≤ b) :
  ∃ v, ∀ w, (do eqGuard op t ox oy (.int k a) (.int k b); binOp op t (.int k a) (.int k b) : Sem Value).run P w = .ok v w := by
 have hb0 : b ≠ 0 := by omega
 rcases hop with rfl | rfl
 ·exact ⟨.int k (k.wrap (a.tdiv b)), fun w => RC (by simp) (by simp) (by simp [binOp, Op.intDiv, hb0])⟩
 ·exact ⟨.int k (a.tmod b), fun w => RC (by simp) (by simp) (by simp [binOp, Op.intDiv, hb0])⟩
theorem co (h : RelE n gh g E H io B a w) {ops : Array Oper} {o : Oper} {ao : AOper} (hc : F3 P n ops o = some ao) {K : ES → AH → Prop} (hk : gm ao E H K) :
  RG ao.k = true ∧ ∃ v, Yields P ops o v a ∧ ∃ E1, RelE n gh g E1 H io B (a.put o.dst v) w ∧ K E1 H := by
 obtain ⟨d, op, x, y, k, av, bv, rfl, hop, hx, hy, hb, hK⟩ := hk
 refine ⟨rfl, ?_⟩
 simp only [F3, Option.bind_eq_some_iff] at hc
 obtain ⟨⟨k', xs⟩, hcop, hc⟩ := hc
 split at hc
 case isFalse => cases hc
 rename_i hcond
 simp only [fA, Bool.and_eq_true, Bool.not_eq_true'] at hcond
 obtain ⟨⟨⟨c1, c2⟩, c3⟩, c4⟩ := hcond
 split at hc
 case h_2 =>
  simp only [Option.bind_eq_some_iff] at hc
  obtain ⟨s, _, hc⟩ := hc
  split at hc <;> simp at hc
 rename_i hgd
 simp only [Option.some.injEq, AOper.mk.injEq, and_true] at hc
 obtain ⟨hd, hk', hxs⟩ := hc
 subst hk' hxs
 have hw : Region.wanted o (yielded ops a.tmps) = true := by simp [Region.wanted, hgd]
 have hrel : Rel g (toT (n + gh.size) E) H io B (C8 a gh).tmps w := h.rel
 have heval : execOp a.eval o = execOp (C8 a gh).eval o := execOp_congr o (by intro cs b he; rw [he] at c3; simp [bA] at c3) fun x hx => (RH h.size (Array.all_eq_true_iff_forall_mem.1 c1 x hx)).symm
 obtain ⟨dst, op', type, pos, after, guard⟩ := o
 obtain ⟨t, x1, y1, yt, d2, x', y', rfl, h1, h2, h3, h4, h5⟩ := jM hcop
 simp only [List.cons.injEq, and_true] at h5
 obtain ⟨rfl, rfl⟩ := h5
 have r1 := Cu hrel h3
 have r2 := Cu hrel h4
 simp only [List.all_cons, List.all_nil, Bool.and_true, Bool.and_eq_true] at c2
 rw [TU c2.1, hx, R] at r1
 rw [TU c2.2, hy, R] at r2
 obtain ⟨v, hv⟩ := fX (P := P) (op := op) (t := t) (ox := x1) (oy := y1) (k := k) (a := av) (b := bv) hop hb
 have hdst : ∀ d, dst = some d → d < n := by
  intro d hd
  simp only [hd] at c4; simpa using c4
 refine ⟨v, .inl ⟨hw, fun w2 => ?_⟩, _, h.put (av := .bot) (u := v) hdst (by rw [R]), ?_⟩
 ·rw [heval]
  have := hv w2
  simp only [execOp, r1.2, r2.2]
  simp only [Sem.run_bind] at this ⊢
  cases hg : (eqGuard op t x1 y1 (Value.int k av) (Value.int k bv)).run P w2 with
  | ok u w3 =>
    rw [hg] at this
    simp only [Result.andThen_ok] at this ⊢
    rw [this]; rfl
  | _ => rw [hg] at this; simp [Result.andThen] at this
 ·simp only at hd
  rw [hd]; exact hK
theorem Wm {ops : Array Oper} (hsel : Region.noSelect ops = true) {Q : Exit → Act → World → Prop} (hQ : ∀ c a w, ¬ Q (.panic c) a w) (w : World) : ∀ (fuel : Nat) (listed : Array Bool) (hs : List (Bool × AOper)) {E : ES} {a : Act} {K : ES → AH → Prop},
  GS P n ops fuel listed = some (hs.map (·.2), .done) → RelE n gh g E H io B a w → eZ P md hs K E H → (∀ E' H' a', K E' H' → H' = H → RelE n gh g E' H io B a' w → Q .normal a' w) → wpAnyH P .any ops Q (fun w' => w'.heap = w.heap) fuel listed a w
 | 0, listed, hs, E, a, K, hp, h, hk, hq => by
   simp only [GS, Option.map_eq_some_iff, Prod.mk.injEq] at hp
   obtain ⟨p', hp, h0, rfl⟩ := hp
   obtain rfl : hs = [] := by cases hs with | nil => rfl | cons x xs => simp at h0
   simp only [Hy] at hp
   split at hp
   case isFalse => cases hp
   rename_i hr
   exact wpAnyH_done (by simpa using hr) (hq _ _ _ hk rfl h) 0
 | fuel + 1, listed, hs, E, a, K, hp, h, hk, hq => by
   simp only [GS] at hp
   split at hp
   ·rename_i i hi
    have h1 := List.find?_some hi
    have h2 := List.mem_of_find?_eq_some hi
    simp only [Bool.and_eq_true] at h1
    simp only [Option.bind_eq_some_iff, Option.some.injEq, Prod.mk.injEq] at hp
    obtain ⟨o, ho, ao, hao, ⟨hs', p'⟩, hr, h0, rfl⟩ := hp
    have hearly : (RG ao.k || gk ao) = true := by
     have := h1.2
     simpa [Wk, ho, hao] using this
    rw [Bool.or_eq_true] at hearly
    match hs, h0, hk with
    | (false, ao') :: hs2, h0, hk =>
      simp only [List.map_cons, List.cons.injEq] at h0
      obtain ⟨rfl, rfl⟩ := h0
      rcases hearly with hnk | hld
      ·obtain ⟨v, hy, E1, hR, hK⟩ := FU h hao hnk hk
       exact wpAnyH_take ho hsel h1.1 (by simpa using h2) (fun c a w hp => absurd hp (hQ _ _ _)) hy.yieldsIf rfl (Wm hsel hQ w fuel _ hs2 hr hR hK hq)
      ·obtain ⟨v, hy, E1, hR, hK⟩ := YG h hao hld hk
       exact wpAnyH_take ho hsel h1.1 (by simpa using h2) (fun c a w hp => absurd hp (hQ _ _ _)) hy rfl (Wm hsel hQ w fuel _ hs2 hr hR hK hq)
    | (true, ao') :: hs2, h0, hk =>
      simp only [List.map_cons, List.cons.injEq] at h0
      obtain ⟨rfl, rfl⟩ := h0
      obtain ⟨_, v, hy, E1, hR, hK⟩ := co h hao hk
      exact wpAnyH_take ho hsel h1.1 (by simpa using h2) (fun c a w hp => absurd hp (hQ _ _ _)) hy.yieldsIf rfl (Wm hsel hQ w fuel _ hs2 hr hR hK hq)
   ·simp only [Option.map_eq_some_iff, Prod.mk.injEq] at hp
    obtain ⟨p', hp, h0, rfl⟩ := hp
    obtain rfl : hs = [] := by cases hs with | nil => rfl | cons x xs => simp at h0
    simp only [Hy] at hp
    split at hp
    ·rename_i hr
     exact wpAnyH_done (by simpa using hr) (hq _ _ _ hk rfl h) _
    ·split at hp
     ·simp only [Option.bind_eq_some_iff, Option.some.injEq] at hp
      obtain ⟨_, _, _, _, _, _, hp⟩ := hp
      cases hp
     ·rename_i hr _
      exfalso
      revert hp hr
      cases Region.ready .any ops listed with
      | nil => simp [HZ]
      | cons r rs =>
        intro hr hp
        simp only [HZ, Option.bind_eq_some_iff, Option.some.injEq] at hp
        obtain ⟨_, _, _, _, _, _, _, _, hp⟩ := hp
        cases hp
theorem J6 : ∀ (bc : BCode) (code : Code) {g : Env} {E : ES} {H : AH} {io : Nat → Option (Nat × Nat)} {B : Nat → List Nat} {w : World} {a : Act} {AQ : AExit → ES → AH → Prop} {Q : Exit → Act → World → Prop}, (∀ x, g.forb x → x < g.w0.heap.size) →
  cB P n bc code = some (EX bc) → RelE n gh g E H io B a w → MK P md bc AQ E H → (∀ e E' H' io' B' a' w', AQ e E' H' → RelE n gh g E' H' io' B' a' w' → Q e.to a' w') → code.wp P Q a w
 | .base ac, code, g, E, H, io, B, w, a, AQ, Q, hg, hc, h, hk, hq => by
   simp only [cB, EX, Option.map_eq_some_iff, BCode.base.injEq] at hc
   obtain ⟨ac', hc, rfl⟩ := hc
   exact N2 hg ac code hc h hk hq
 | .early hs p, code, g, E, H, io, B, w, a, AQ, Q, hg, hc, h, hk, hq => by
   cases code <;> try (simp [cB] at hc; done)
   case region id ops d =>
    cases d
    case false => simp [cB] at hc
    simp only [cB, EX] at hc
    split at hc
    case isFalse => cases hc
    rename_i hcond
    simp only [Bool.and_eq_true] at hcond
    simp only [Option.map_eq_some_iff, BCode.early.injEq] at hc
    obtain ⟨⟨hs', p'⟩, hp, rfl, rfl⟩ := hc
    have hd := h.drawn (w.drawn + 1)
    refine wp_mono (Q := fun e a w => match e with | .panic _ => False | e => Q e a w) (wp_region_held (S := ck (RN g H B { w with drawn := w.drawn + 1 })) hcond.1 ?_) ?_
    ·refine Wl (g := RN g H B { w with drawn := w.drawn + 1 }) (fun x hx => Nat.lt_of_lt_of_le (hg x hx) hd.rel.kept.size) hcond.2 (fun _ _ _ hh => hh) ops.size _ hs' p' hp hd.rebase rfl (fun x hx => (Pe hd x).1 hx) hk ?_
     intro E' H' io' B' a' w' hK hR
     exact hq .normal _ _ _ _ _ _ hK (hd.unbase hR)
    ·intro e a w he
     cases e <;> first | exact he | exact he.elim
 | .pure hs, code, g, E, H, io, B, w, a, AQ, Q, hg, hc, h, hk, hq => by
   cases code <;> try (simp [cB] at hc; done)
   case region id ops d =>
    cases d
    case false => simp [cB] at hc
    simp only [cB, EX] at hc
    split at hc
    case isFalse => cases hc
    rename_i hcond
    simp only [Bool.and_eq_true] at hcond
    simp only [Option.bind_eq_some_iff] at hc
    obtain ⟨⟨hs', p'⟩, hp, hc⟩ := hc
    split at hc
    case h_2 => cases hc
    rename_i hdone
    simp only at hdone
    subst hdone
    simp only [Option.some.injEq, BCode.pure.injEq] at hc
    subst hc
    have hd := h.drawn (w.drawn + 1)
    refine wp_mono (Q := fun e a w => match e with | .panic _ => False | e => Q e a w) (wp_region_held (S := fun w' => w'.heap = w.heap) hcond.1 ?_) ?_
    ·refine ZJ hcond.2 (fun _ _ _ hh => hh) { w with drawn := w.drawn + 1 } ops.size _ hs' hp hd hk ?_
     intro E' H' a' hK hH hR
     subst hH
     exact hq .normal _ _ _ _ _ _ hK hR
    ·intro e a w he
     cases e <;> first | exact he | exact he.elim
 | .calm hs, code, g, E, H, io, B, w, a, AQ, Q, hg, hc, h, hk, hq => by
   cases code <;> try (simp [cB] at hc; done)
   case region id ops d =>
    cases d
    case false => simp [cB] at hc
    simp only [cB, EX] at hc
    split at hc
    case isFalse => cases hc
    rename_i hcond
    simp only [Bool.and_eq_true] at hcond
    simp only [Option.bind_eq_some_iff] at hc
    obtain ⟨⟨hs', p'⟩, hp, hc⟩ := hc
    split at hc
    case h_2 => cases hc
    rename_i hdone
    simp only at hdone
    subst hdone
    simp only [Option.some.injEq, BCode.pure.injEq] at hc
    subst hc
    have hd := h.drawn (w.drawn + 1)
    refine wp_mono (Q := fun e a w => match e with | .panic _ => False | e => Q e a w) (wp_region_held (S := fun w' => w'.heap = w.heap) hcond.1 ?_) ?_
    ·refine Wm hcond.2 (fun _ _ _ hh => hh) { w with drawn := w.drawn + 1 } ops.size _ hs hp hd hk ?_
     intro E' H' a' hK hH hR
     subst hH
     exact hq .normal _ _ _ _ _ _ hK hR
    ·intro e a w he
     cases e <;> first | exact he | exact he.elim
 | .seq x y, code, g, E, H, io, B, w, a, AQ, Q, hg, hc, h, hk, hq => by
   cases code <;> try (simp [cB] at hc; done)
   case seq c1 c2 =>
    simp only [cB, EX, Option.bind_eq_some_iff, Option.some.injEq, BCode.seq.injEq] at hc
    obtain ⟨x', h1, y', h2, rfl, rfl⟩ := hc
    refine wp_seq (J6 x c1 hg h1 h hk ?_)
    intro e E' H' io' B' a' w' hA hR
    cases e with
    | normal => exact J6 y c2 hg h2 hR hA hq
    | exit id => exact hq (.exit id) _ _ _ _ _ _ hA hR
    | ret => exact hq .ret _ _ _ _ _ _ hA hR
 | .frz t x, code, g, E, H, io, B, w, a, AQ, Q, hg, hc, h, hk, hq => by
   simp only [cB, EX, Option.map_eq_some_iff, BCode.frz.injEq, true_and] at hc
   obtain ⟨x', hc, rfl⟩ := hc
   obtain ⟨sz, id, o, cs, cs', hE, hl, hf, hK⟩ := hk
   have key : ∃ io' B', RelE n gh g (Ec (B9 E) (some t) (.vp 1 cs' o)) (AG [id] (BE H)) io' B' a w := by
    have hidlt : id < H.length := Live.lt (r := .box cs) hl
    by_cases ht : t < n + gh.size
    ·obtain ⟨u, hu, hr⟩ := h.rel.get t
     rw [Hv ht, hE] at hr
     obtain ⟨io', B', h1, h2⟩ := h.rel.freeze hr hl hf
     rw [FT] at h1
     have h3 := h1.put (some t) h2
     rw [WX] at h3
     have eV : eR (a.tmps ++ gh) (some t) u = a.tmps ++ gh := by
      simp only [eR]
      rw [← hu]
      apply Array.ext_getElem?
      intro j
      rw [Array.getElem?_setIfInBounds]
      by_cases hj : t = j
      ·subst hj
       have hlt : t < (a.tmps ++ gh).size := by simp [h.size]; omega
       have hlt' : t < a.tmps.size + gh.size := by simpa using hlt
       simp [hlt', Array.getD]
      ·rw [if_neg hj]
     rw [eV] at h3
     exact ⟨io', B', h.size, h3, h.defers⟩
    ·obtain ⟨b, p, us, h1, h2, h3, h4, h5, h6⟩ := h.rel.rows id _ hl
     obtain ⟨io', B', h7, _⟩ := h.rel.freeze (sz := 0) (o := 0) (u := .pointer (some ⟨b, p, none⟩)) (by rw [R]; exact ⟨rfl, b, p, h1, by simp⟩) hl hf
     rw [FT] at h7
     refine ⟨io', B', h.size, ?_, h.defers⟩
     show Rel g (toT (n + gh.size) ((t, AV.vp 1 cs' o) :: B9 E)) _ _ _ _ _
     rw [Z6 (by omega)]
     exact h7
   obtain ⟨io', B', hR⟩ := key
   exact J6 x code hg hc hR hK hq
 | .gc phs live x, code, g, E, H, io, B, w, a, AQ, Q, hg, hc, h, hk, hq => by
   simp only [cB, EX] at hc
   obtain ⟨E', H', io', B', hK, hR⟩ := Hp h hk
   exact J6 x code hg hc hR hK hq
 | .lg x, code, g, E, H, io, B, w, a, AQ, Q, hg, hc, h, hk, hq => by
   simp only [cB, EX] at hc
   obtain ⟨E', H', io', B', hK, hR⟩ := lD hk h
   exact J6 x code hg hc hR hK hq
 | .block id x, code, g, E, H, io, B, w, a, AQ, Q, hg, hc, h, hk, hq => by
   cases code <;> try (simp [cB] at hc; done)
   case block id' c1 =>
    simp only [cB, EX, Option.map_eq_some_iff, BCode.block.injEq] at hc
    obtain ⟨x', h1, rfl, rfl⟩ := hc
    refine wp_block (J6 x c1 hg h1 h hk ?_)
    intro e E' H' io' B' a' w' hA hR
    cases e with
    | normal => exact hq .normal _ _ _ _ _ _ hA hR
    | ret => exact hq .ret _ _ _ _ _ _ hA hR
    | exit j =>
      simp only [PY] at hA
      simp only [AExit.to, Exit.inBlock]
      split at hA
      ·rename_i hj; rw [if_pos hj]; exact hq .normal _ _ _ _ _ _ hA hR
      ·rename_i hj; rw [if_neg hj]; exact hq (.exit j) _ _ _ _ _ _ hA hR
 | .cond c x y, code, g, E, H, io, B, w, a, AQ, Q, hg, hc, h, hk, hq => by
   cases code <;> try (simp [cB] at hc; done)
   case cond c0 c1 c2 =>
    simp only [cB, EX] at hc
    split at hc
    case isFalse => cases hc
    rename_i ht
    simp only [Option.bind_eq_some_iff] at hc
    obtain ⟨c', h0, x', h1, y', h2, hc⟩ := hc
    split at hc
    case isFalse => cases hc
    rename_i ho
    simp only [Option.some.injEq, BCode.cond.injEq] at hc
    obtain ⟨rfl, rfl, rfl⟩ := hc
    obtain ⟨t, he, k1, k2⟩ := hk
    refine wp_cond_split (X5 h h0 ht ho he) ?_ ?_
    ·intro e; exact J6 x c1 hg h1 h (k1 e) hq
    ·intro e; exact J6 y c2 hg h2 h (k2 e) hq
 | .loop phs live x, code, g, E, H, io, B, w, a, AQ, Q, hg, hc, h, hk, hq => by
   cases code <;> try (simp [cB] at hc; done)
   case loop c1 =>
    simp only [cB, EX, Option.map_eq_some_iff, BCode.loop.injEq, true_and] at hc
    obtain ⟨x', h1, rfl⟩ := hc
    obtain ⟨E0, H0, io0, B0, ⟨I, n0, hI, hround⟩, hR0⟩ := Hp h hk
    refine wp_loop_ghost (fun m a w => ∃ E H io B, I m E H ∧ RelE n gh g E H io B a w) n0 ⟨E0, H0, io0, B0, hI, hR0⟩ ?_
    rintro m a' w' ⟨E1, H1, io1, B1, hI1, hR1⟩
    refine J6 x c1 hg h1 hR1 (hround m E1 H1 hI1) ?_
    intro e E' H' io' B' a'' w'' hA hR
    cases e with
    | normal =>
      obtain ⟨E2, H2, io2, B2, ⟨m', hlt, hA⟩, hR2⟩ := Hp hR hA
      exact ⟨m', hlt, E2, H2, io2, B2, hA, hR2⟩
    | exit id => exact hq (.exit id) _ _ _ _ _ _ hA hR
    | ret => exact hq .ret _ _ _ _ _ _ hA hR
def jN (P : Program) (f : Nat) (n : Nat) (rs : List RV) (bc : BCode) : Prop :=
 ∃ fn code, P.funcs[f]? = some fn ∧ fn.body = some code ∧ fn.ntmps = n ∧ fI P fn.results.toList = some rs ∧ cB P n bc code = some (EX bc) ∧ cX n rs = true
end
theorem jO {P : Program} {md : Nat → List Bool} {f n : Nat} {rs : List RV} {bc : BCode} (hc : jN P f n rs bc) {as : List AV} {ms : List Bool} {post : AV → List AV → Prop} (hn : as.length ≤ n) {F : AExit → ES → AH → Prop} (hF : ∀ e E H, F e E H → ∃ r ups, post r ups ∧ Fin rs n as.length ms r ups e E H)
  (hk : MK P md bc F (eW n as) (Y2 as)) : SoundSet P f as post := by
 obtain ⟨fn, code, hfn, hbody, hnt, hres, hcode, hrs⟩ := hc
 intro w forb us S hr hnd hlt hforb
 have hul : us.length = as.length := hr.length
 obtain ⟨io, B, hrel⟩ := gO hr hnd hlt hforb.2 hn (Array.replicate (n - us.length) undef) (by simp; omega)
 refine calls_of_wp hfn hbody ?_
 rw [hnt]
 have hE : RelE n us.toArray ⟨w, S, forb⟩ (eW n as) (Y2 as) io B { tmps := us.toArray ++ Array.replicate (n - us.toArray.size) undef, defers := [] } w := by
  refine ⟨by simp; omega, by simpa using hrel, rfl⟩
 refine J6 (g := ⟨w, S, forb⟩) bc code hforb.1 hcode hE hk ?_
 intro e E' H' io' B' a' w' hA hR
 obtain ⟨r, ups, hpost, he, av0, hav, ⟨r0, ks1⟩, hfz, hr0, ⟨ups0, ks2⟩, hfin, hu0, hnd2⟩ := hF _ _ _ hA
 simp only at hr0 hu0
 subst hr0 hu0
 have hrel' := hR.rel
 have hgh := Y4 hrel' (bD n as.length) (fun t ht => by have := Y5 _ _ _ ht; simp; omega)
 have hus : ((bD n as.length).map fun t => (a'.tmps ++ us.toArray).getD t undef) = us := by
  rw [Wg]
  apply List.ext_getElem
  ·simp [hul]
  ·intro i h1 h2
   simp only [List.getElem_map, List.getElem_range]
   have hs := hR.size
   have : n + i < (a'.tmps ++ us.toArray).size := by simp; omega
   simp [Array.getD, this, Array.getElem_append_right, hs, h2]
 rw [hus] at hgh
 obtain ⟨S2, f1, f2⟩ := Wd hrel' _ ms us ups0 ks2 hfin hgh
 have hrun := X6 (P := P) hrel' hR.size (Nat.le_add_right _ _) hres (We hrs) hav
 obtain ⟨v, hv, hvr⟩ := hrun
 obtain ⟨S1, r1, r2⟩ := bq hrel' _ r0 ks1 v hfz hvr
 have hsub : List.Sublist (S1 ++ S2) ((ks1 ++ ks2).flatMap B') := by rw [List.flatMap_append]; exact r2.append f2
 have hmem : ∀ x ∈ S1 ++ S2, ∃ k, x ∈ B' k := fun x hx => by obtain ⟨k, _, hk⟩ := FE hsub hx; exact ⟨k, hk⟩
 have hst : Step ((ctx ⟨w, S, forb⟩ H' io' B' w').at 0) (Xt w' (S1 ++ S2) forb) := by
  refine ⟨Nat.le_refl _, ?_, fun _ _ hx => by simp [Ctx.at] at hx, Nat.le_refl _, fun _ _ => rfl, fun _ _ _ hr => hr⟩
  intro c b _ hbad
  simp only [Ctx.at, Classical.not_imp] at hbad
  obtain ⟨rfl, hbad⟩ := hbad
  refine ⟨?_, rfl⟩
  show ¬ (b ∈ S1 ++ S2 ∨ forb b)
  rintro (h1 | h1)
  ·exact hbad (.inl (hmem b h1))
  ·exact hbad (.inr h1)
 have hpost' : ∃ v S', Ending.returned v = .returned v ∧ RL (Xt w' S' forb) (r0 :: ups0) S' (v :: us) ∧ S'.Nodup ∧ (∀ x ∈ S', x < w'.heap.size ∧ (w.heap.size ≤ x ∨ x ∈ S)) ∧ Kept w.heap.size S w w' := by
  refine ⟨v, S1 ++ S2, rfl, ?_, hsub.nodup (hrel'.flat_nodup hnd2), ?_, hrel'.kept⟩
  ·rw [RL]
   exact ⟨S1, S2, v, us, rfl, rfl, R.step hst _ _ _ (fun _ _ => rfl) r1, RL.step hst _ _ _ (fun _ _ => rfl) f1⟩
  ·intro x hx
   obtain ⟨k, hk⟩ := hmem x hx
   exact ⟨hrel'.lt k x hk, hrel'.own k x hk⟩
 rcases he with rfl | rfl
 ·exact ⟨hR.defers, v, hv, r0, ups0, hpost, v, S1 ++ S2, rfl, by
   rw [RL]
   exact ⟨S1, S2, v, us, rfl, rfl, R.step hst _ _ _ (fun _ _ => rfl) r1, RL.step hst _ _ _ (fun _ _ => rfl) f1⟩, hsub.nodup (hrel'.flat_nodup hnd2), fun x hx => by
   obtain ⟨k, hk⟩ := hmem x hx
   exact ⟨hrel'.lt k x hk, hrel'.own k x hk⟩, hrel'.kept⟩
 ·exact ⟨hR.defers, v, hv, r0, ups0, hpost, v, S1 ++ S2, rfl, by
   rw [RL]
   exact ⟨S1, S2, v, us, rfl, rfl, R.step hst _ _ _ (fun _ _ => rfl) r1, RL.step hst _ _ _ (fun _ _ => rfl) f1⟩, hsub.nodup (hrel'.flat_nodup hnd2), fun x hx => by
   obtain ⟨k, hk⟩ := hmem x hx
   exact ⟨hrel'.lt k x hk, hrel'.own k x hk⟩, hrel'.kept⟩
theorem YH {P : Program} {md : Nat → List Bool} {f n : Nat} {rs : List RV} {bc : BCode} (hc : jN P f n rs bc) {as : List AV} {ms : List Bool} {r : AV} {ups : List AV} (hn : as.length ≤ n)
  (hk : MK P md bc (Fin rs n as.length ms r ups) (eW n as) (Y2 as)) : SoundAt P f as r ups :=
 SoundSet.at (jO hc hn (F := Fin rs n as.length ms r ups) (fun _ _ _ hf => ⟨r, ups, ⟨rfl, rfl⟩, hf⟩) hk)
section
variable {P : Program} {md : Nat → List Bool} {K : ES → AH → Prop} {Q : AExit → ES → AH → Prop} {E : ES} {H : AH}
@[simp] theorem ly {ac : ACode} : MK P md (.base ac) Q E H = awp P md ac Q E H := (rfl)
@[simp] theorem lz {hs : List AOper} : MK P md (.pure hs) Q E H = Hw P md hs (Q .normal) E H := (rfl)
@[simp] theorem l0 {hs : List (Bool × AOper)} : MK P md (.calm hs) Q E H = eZ P md hs (Q .normal) E H := (rfl)
@[simp] theorem nE : eZ P md [] K E H = K E H := (rfl)
@[simp] theorem nn {dst : Option Nat} {k : AK} {xs : List Opd} {os : List (Bool × AOper)} : eZ P md ((false, ⟨dst, k, xs, none⟩) :: os) K E H = Ho P md ⟨dst, k, xs, none⟩ E H (eZ P md os K) := (rfl)
def fY (E : ES) (H : AH) (K : ES → AH → Prop) (d : Nat) : AV → AV → Prop
 | .v (.int k _), .v (.int k' b) => k = k' ∧ 1 ≤ b ∧ K (Ec E (some d) .bot) H
 | _, _ => False
theorem aH {d : Nat} {op : BinOp} {x y : Opd} {os : List (Bool × AOper)} (hop : op = .quo ∨ op = .rem) (h : fY E H (eZ P md os K) d (evE E x) (evE E y)) : eZ P md ((true, ⟨some d, .bin op 0, [x, y], none⟩) :: os) K E H := by
 unfold fY at h
 split at h
 ·rename_i k a k' b hx hy
  obtain ⟨rfl, hb, hK⟩ := h
  exact ⟨d, op, x, y, _, _, _, rfl, hop, hx, hy, hb, hK⟩
 ·exact h.elim
@[simp] theorem nF {x y : BCode} : MK P md (.seq x y) Q E H = MK P md x (X0 (MK P md y Q) Q) E H := (rfl)
@[simp] theorem kP {hs : List AOper} {p : Plan} : MK P md (.early hs p) Q E H = Ha P md hs p (Q .normal) E H := (rfl)
@[simp] theorem nG {t : Nat} {x : BCode} : MK P md (.frz t x) Q E H = ZI t (MK P md x Q) E H := (rfl)
@[simp] theorem kQ {id : Nat} {x : BCode} : MK P md (.block id x) Q E H = MK P md x (PY id Q) E H := (rfl)
def Tf (P : Program) (md : Nat → List Bool) (a b : BCode) (Q : AExit → ES → AH → Prop) (E : ES) (H : AH) (v : AV) : Prop := ∃ t, v = .v (.bool t) ∧ (t = true → MK P md a Q E H) ∧ (t = false → MK P md b Q E H)
@[simp] theorem l6 {c : Opd} {x y : BCode} : MK P md (.cond c x y) Q E H = Tf P md x y Q E H (evE E c) := (rfl)
@[simp] theorem jP {x y : BCode} : Tf P md x y Q E H (.v (.bool true)) = MK P md x Q E H := by simp [Tf]
@[simp] theorem gn {x y : BCode} : Tf P md x y Q E H (.v (.bool false)) = MK P md y Q E H := by simp [Tf]
@[simp 500] theorem jQ {x y : BCode} {t : Bool} : Tf P md x y Q E H (.v (.bool t)) = ((t = true → MK P md x Q E H) ∧ (t = false → MK P md y Q E H)) := by simp [Tf]
@[simp] theorem l7 {phs : List (Nat × Nat)} {live : List Nat} {x : BCode} : MK P md (.loop phs live x) Q E H = GN phs live E H (EO phs live (MK P md x) Q) := (rfl)
@[simp] theorem np {phs : List (Nat × Nat)} {live : List Nat} {x : BCode} : MK P md (.gc phs live x) Q E H = GN phs live E H (MK P md x Q) := (rfl)
@[simp] theorem nq {x : BCode} : MK P md (.lg x) Q E H = Lg (MK P md x Q) E H := (rfl)
@[simp] theorem go {p : Plan} : Ha P md [] p K E H = Cv P md p K E H := (rfl)
@[simp] theorem fZ {dst : Option Nat} {k : AK} {xs : List Opd} {os : List AOper} {p : Plan} : Ha P md (⟨dst, k, xs, none⟩ :: os) p K E H = (YF ⟨dst, k, xs, none⟩ E ∧ Ho P md ⟨dst, k, xs, none⟩ E H (Ha P md os p K)) := (rfl)
theorem YI {t sz id o : Nat} {cs cs' : List AV} (h1 : get E t = .lp sz id 0 o) (h2 : H[id]? = some (some (.box cs))) (h3 : gl cs = some cs') (h : K (Ec (B9 E) (some t) (.vp 1 cs' o)) (AG [id] (BE H))) : ZI t K E H :=
 ⟨sz, id, o, cs, cs', h1, h2, h3, h⟩
end
attribute [simp] YF gl ZH
def Ch (k : Int) : List UInt8 := if k = 0 then [108, 97, 121] else if k = 1 then [108, 105, 102, 116] else if k = 2 then [102, 108, 105, 112] else if k = 3 then [102, 111, 114, 99, 101] else [98, 97, 99, 107]
def b8 (n : Int) : UInt8 := UInt8.ofNat n.toNat
def RO (n : Int) : List UInt8 := if n < 10 then [b8 (48 + n)] else [b8 (48 + n / 10), b8 (48 + n % 10)]
def N6 (w : Int) : List UInt8 := if w = 1 then [101] else if w = 2 then [110] else if w = 3 then [119] else if w = 4 then [115] else []
def SO (d : Int × Int × Int) : Bool :=
 if d.1 = 0 then true else if d.1 = 1 ∨ d.1 = 2 then decide (d.2.2 = 0) else if d.1 = 3 ∨ d.1 = 4 then decide (d.2.1 = 0 ∧ d.2.2 = 0) else false
def Ed (d : Int × Int × Int) : Bool := SO d && decide (0 ≤ d.2.1 ∧ d.2.1 ≤ 99) && (!decide (d.1 = 0) || decide (1 ≤ d.2.2 ∧ d.2.2 ≤ 4))
def CA (d : Int × Int × Int) : List UInt8 := if Ed d then Ch d.1 ++ ((if d.1 ≤ 2 then 32 :: RO d.2.1 else []) ++ (if d.1 = 0 then 32 :: N6 d.2.2 else [])) else []
def Db (c : UInt8) : List UInt8 → List (List UInt8)
 | [] => [[]]
 | x :: s => if x = c then [] :: Db c s else match Db c s with
   | [] => [[x]]
   | p :: ps => (x :: p) :: ps
def nth (ps : List (List UInt8)) (i : Nat) : List UInt8 := ps.getD i []
def KQ (p : List UInt8) : Int := if p = Ch 0 then 0 else if p = Ch 1 then 1 else if p = Ch 2 then 2 else if p = Ch 3 then 3 else if p = Ch 4 then 4 else -1
def jR (p : List UInt8) : Int := if p = N6 1 then 1 else if p = N6 2 then 2 else if p = N6 3 then 3 else if p = N6 4 then 4 else 0
def Tg : Int → List UInt8 → Option Int
 | n, [] => some n
 | n, c :: s => if 48 ≤ c.toNat ∧ c.toNat ≤ 57 then Tg (10 * n + ((c.toNat : Int) - 48)) s else none
def bm (p : List UInt8) : Int := if p.length = 0 ∨ 4 < p.length ∨ (1 < p.length ∧ p.head? = some 48) then -1 else (Tg 0 p).getD (-1)
def Th (s : List UInt8) : Int × Int × Int := let ps := Db 32 s; (KQ (nth ps 0), if 1 < ps.length then bm (nth ps 1) else 0, if 2 < ps.length then jR (nth ps 2) else 0)
def Ci (s : List UInt8) : Bool := decide (s ≠ []) && decide (CA (Th s) = s)
def Cj (s : List UInt8) : Int × Int × Int := if Ci s then Th s else (0, 0, 0)
theorem jS : ∀ k : _root_.Fin 5, ∀ s : _root_.Fin 100, ∀ w : _root_.Fin 5, (if Ed ((k.val : Int), (s.val : Int), (w.val : Int)) then decide (Th (CA ((k.val : Int), (s.val : Int), (w.val : Int))) = ((k.val : Int), (s.val : Int), (w.val : Int))) && decide (CA ((k.val : Int), (s.val : Int), (w.val : Int)) ≠ []) else true) = true := by decide +kernel
theorem Ti {k s w : Int} (h : Ed (k, s, w) = true) : ∃ (k' : _root_.Fin 5) (s' : _root_.Fin 100) (w' : _root_.Fin 5), k = (k'.val : Int) ∧ s = (s'.val : Int) ∧ w = (w'.val : Int) := by
 simp only [Ed, SO, Bool.and_eq_true, Bool.or_eq_true, Bool.not_eq_true', decide_eq_false_iff_not, decide_eq_true_eq] at h
 obtain ⟨⟨h1, h2⟩, h3⟩ := h
 have hk : 0 ≤ k ∧ k ≤ 4 ∧ 0 ≤ w ∧ w ≤ 4 := by
  split at h1
  ·rename_i h
   have h' : k = 0 := h
   rcases h3 with h3 | h3
   ·exact absurd h' h3
   ·omega
  ·split at h1
   ·rename_i h
    have h' : k = 1 ∨ k = 2 := h
    have : w = 0 := by simpa using h1
    omega
   ·split at h1
    ·rename_i h
     have h' : k = 3 ∨ k = 4 := h
     have : s = 0 ∧ w = 0 := by simpa using h1
     omega
    ·cases h1
 exact ⟨⟨k.toNat, by omega⟩, ⟨s.toNat, by omega⟩, ⟨w.toNat, by omega⟩, by simp; omega, by simp; omega, by simp; omega⟩
theorem YJ {d : Int × Int × Int} (h : Ed d = true) : Th (CA d) = d ∧ CA d ≠ [] := by
 obtain ⟨k, s, w⟩ := d
 obtain ⟨k', s', w', rfl, rfl, rfl⟩ := Ti h
 have := jS k' s' w'
 rw [if_pos h] at this
 simpa using this
theorem YK (d : Int × Int × Int) : CA d = [] ↔ Ed d = false := by
 constructor
 ·intro h
  cases ho : Ed d with
  | false => rfl
  | true => exact absurd h (YJ ho).2
 ·intro h; simp [CA, h]
theorem cr {d : Int × Int × Int} (h : Ed d = true) : Ci (CA d) = true ∧ Cj (CA d) = d := by
 obtain ⟨h1, h2⟩ := YJ h
 have : Ci (CA d) = true := by simp [Ci, h1, h2]
 exact ⟨this, by simp [Cj, this, h1]⟩
theorem Tj {s : List UInt8} (h : Ci s = true) : CA (Cj s) = s ∧ Ed (Cj s) = true := by
 have h' := h
 simp only [Ci, Bool.and_eq_true, decide_eq_true_eq] at h'
 have e : Cj s = Th s := by simp [Cj, h]
 rw [e]
 refine ⟨h'.2, ?_⟩
 cases ho : Ed (Th s) with
 | true => rfl
 | false => exact absurd ((YK _).2 ho) (by rw [h'.2]; exact h'.1)
theorem fa {s : List UInt8} {d : Int × Int × Int} (hd : ∀ e, Ed e = true → s = CA e → d = e) : (decide (CA d = s) && decide (s ≠ [])) = Ci s ∧ (Ci s = true → d = Cj s) := by
 cases hr : Ci s with
 | true =>
   obtain ⟨h1, h2⟩ := Tj hr
   have := hd _ h2 h1.symm
   refine ⟨?_, fun _ => this⟩
   rw [this, h1]
   simp only [Ci, Bool.and_eq_true, decide_eq_true_eq] at hr
   simp [hr.1]
 | false =>
   refine ⟨?_, fun h => by cases h⟩
   by_cases h : CA d = s
   ·by_cases h0 : s = []
    ·simp [h0]
    ·exfalso
     have ho : Ed d = true := by
      cases ho : Ed d with
      | true => rfl
      | false => exact absurd ((YK _).2 ho) (by rw [h]; exact h0)
     have := (cr ho).1
     rw [h, hr] at this; cases this
   ·simp [h]
end Go.Proofs.Dev
