/- Contracts of the functions of the program over slots and rows, each proved against the program itself; no condition beyond those that each theorem names. -/
import Derived.Test.YtiolbpmhnlmmdaaDoorAH
import Derived.OrdersHeld

set_option linter.unusedSimpArgs false
set_option linter.unusedVariables false

namespace Go.Proofs.Dev
set_option linter.unusedSimpArgs false
set_option linter.unusedVariables false

/-- A load is of what is read alone. -/
def viewOk (o : AOper) (E : ES) : Prop := match o.k with
  | .load .. => ∃ x c cs i, o.xs = [x] ∧ evE E x = .vp c cs i ∧ c ≤ 1
  | _ => True

def awpEarly (P : Program) (md : Nat → List Bool) : List AOper → Plan → (ES → Heap → Prop) → ES → Heap → Prop
  | [], p, K, E, H => awpPlan P md p K E H
  | o :: os, p, K, E, H => viewOk o E ∧ awpOp P md o E H (awpEarly P md os p K)

inductive BCode where
  | base (ac : ACode)
  | early (hs : List AOper) (p : Plan)
  | pure (hs : List AOper)
  | calm (hs : List (Bool × AOper))
  | seq (a b : BCode)
  | frz (t : Nat) (a : BCode)
  | block (id : Nat) (a : BCode)
  | cond (c : Opd) (a b : BCode)
  | loop (phs : List (Nat × Nat)) (live : List Nat) (a : BCode)
  | gc (phs : List (Nat × Nat)) (live : List Nat) (a : BCode)
  | lg (a : BCode)

/-- What a variable holds that is read alone from here on. -/
def frzC : AV → Option AV
  | .v x => some (.v x)
  | .sl c sz es => if c ≤ 1 then some (.sl 1 sz (vwL 1 es)) else none
  | _ => none
def frzL : List AV → Option (List AV)
  | [] => some []
  | a :: l => match frzC a, frzL l with
    | some x, some y => some (x :: y)
    | _, _ => none

def frzNode (t : Nat) (K : ES → Heap → Prop) (E : ES) (H : Heap) : Prop :=
  ∃ sz id o cs cs', get E t = .lp sz id 0 o ∧ H[id]? = some (some (.box cs)) ∧ frzL cs = some cs' ∧ K (putE (purgeE E) (some t) (.vp 1 cs' o)) (killAll [id] (purgeH H))

/-- A quotient or a rest of whatever number: what it is is not asked. -/
def calmOp (o : AOper) (E : ES) (H : Heap) (K : ES → Heap → Prop) : Prop :=
  ∃ d op x y k a b, o = ⟨some d, .bin op 0, [x, y], none⟩ ∧ (op = .quo ∨ op = .rem) ∧ evE E x = .v (.int k a) ∧ evE E y = .v (.int k b) ∧ 1 ≤ b ∧ K (putE E (some d) .bot) H

def awpC (P : Program) (md : Nat → List Bool) : List (Bool × AOper) → (ES → Heap → Prop) → ES → Heap → Prop
  | [], K, E, H => K E H
  | (false, o) :: os, K, E, H => awpOp P md o E H (awpC P md os K)
  | (true, o) :: os, K, E, H => calmOp o E H (awpC P md os K)

def awpB (P : Program) (md : Nat → List Bool) : BCode → (AExit → ES → Heap → Prop) → ES → Heap → Prop
  | .base ac, Q, E, H => awp P md ac Q E H
  | .early hs p, Q, E, H => awpEarly P md hs p (Q .normal) E H
  | .pure hs, Q, E, H => awpOps P md hs (Q .normal) E H
  | .calm hs, Q, E, H => awpC P md hs (Q .normal) E H
  | .seq a b, Q, E, H => awpB P md a (athen (awpB P md b Q) Q) E H
  | .frz t a, Q, E, H => frzNode t (awpB P md a Q) E H
  | .block id a, Q, E, H => awpB P md a (ablock id Q) E H
  | .cond c a b, Q, E, H => ∃ t, evE E c = .v (.bool t) ∧ (t = true → awpB P md a Q E H) ∧ (t = false → awpB P md b Q E H)
  | .loop phs live a, Q, E, H => collect phs live E H (loopNode phs live (awpB P md a) Q)
  | .gc phs live a, Q, E, H => collect phs live E H (awpB P md a Q)
  | .lg a, Q, E, H => Lg (awpB P md a Q) E H

section
variable {g : Env} {T : List AV} {H : Heap} {io : Nat → Option (Nat × Nat)} {B : Nat → List Nat} {tmps : Array Value} {w : World}

end

section
variable {P : Program} {md : Nat → List Bool} {g : Env} {n : Nat} {gh : Array Value} {E : ES} {H : Heap} {io : Nat → Option (Nat × Nat)} {B : Nat → List Nat} {w : World} {a : Act}

/-- Which worlds a region may come to: what nobody holds is as it was. -/
def heldS (g : Env) (w : World) : Prop := ∀ k, k < g.w0.heap.size → k ∉ g.lent → w.heap[k]? = g.w0.heap[k]?

theorem RelE.held (h : RelE n gh g E H io B a w) : heldS g w := fun k hk hn => h.rel.kept.block k hk hn

end

section
variable {P : Program} {md : Nat → List Bool} {K : ES → Heap → Prop} {Q : AExit → ES → Heap → Prop} {E : ES} {H : Heap}

@[simp] theorem awpB_base {ac : ACode} : awpB P md (.base ac) Q E H = awp P md ac Q E H := (rfl)
@[simp] theorem awpB_pure {hs : List AOper} : awpB P md (.pure hs) Q E H = awpOps P md hs (Q .normal) E H := (rfl)
@[simp] theorem awpB_calm {hs : List (Bool × AOper)} : awpB P md (.calm hs) Q E H = awpC P md hs (Q .normal) E H := (rfl)
@[simp] theorem awpC_nil : awpC P md [] K E H = K E H := (rfl)
@[simp] theorem awpC_op {dst : Option Nat} {k : AK} {xs : List Opd} {os : List (Bool × AOper)} : awpC P md ((false, ⟨dst, k, xs, none⟩) :: os) K E H = awpX P md ⟨dst, k, xs, none⟩ E H (awpC P md os K) := (rfl)
@[simp] theorem awpB_seq {x y : BCode} : awpB P md (.seq x y) Q E H = awpB P md x (athen (awpB P md y Q) Q) E H := (rfl)
@[simp] theorem awpB_early {hs : List AOper} {p : Plan} : awpB P md (.early hs p) Q E H = awpEarly P md hs p (Q .normal) E H := (rfl)
@[simp] theorem awpB_frz {t : Nat} {x : BCode} : awpB P md (.frz t x) Q E H = frzNode t (awpB P md x Q) E H := (rfl)
@[simp] theorem awpB_block {id : Nat} {x : BCode} : awpB P md (.block id x) Q E H = awpB P md x (ablock id Q) E H := (rfl)
def condKB (P : Program) (md : Nat → List Bool) (a b : BCode) (Q : AExit → ES → Heap → Prop) (E : ES) (H : Heap) (v : AV) : Prop := ∃ t, v = .v (.bool t) ∧ (t = true → awpB P md a Q E H) ∧ (t = false → awpB P md b Q E H)
@[simp] theorem awpB_cond {c : Opd} {x y : BCode} : awpB P md (.cond c x y) Q E H = condKB P md x y Q E H (evE E c) := (rfl)
@[simp] theorem condKB_true {x y : BCode} : condKB P md x y Q E H (.v (.bool true)) = awpB P md x Q E H := by simp [condKB]
@[simp] theorem condKB_false {x y : BCode} : condKB P md x y Q E H (.v (.bool false)) = awpB P md y Q E H := by simp [condKB]
@[simp 500] theorem condKB_bool {x y : BCode} {t : Bool} : condKB P md x y Q E H (.v (.bool t)) = ((t = true → awpB P md x Q E H) ∧ (t = false → awpB P md y Q E H)) := by simp [condKB]
@[simp] theorem awpB_loop {phs : List (Nat × Nat)} {live : List Nat} {x : BCode} : awpB P md (.loop phs live x) Q E H = collect phs live E H (loopNode phs live (awpB P md x) Q) := (rfl)
@[simp] theorem awpB_gc {phs : List (Nat × Nat)} {live : List Nat} {x : BCode} : awpB P md (.gc phs live x) Q E H = collect phs live E H (awpB P md x Q) := (rfl)
@[simp] theorem awpB_lg {x : BCode} : awpB P md (.lg x) Q E H = Lg (awpB P md x Q) E H := (rfl)
@[simp] theorem awpEarly_nil {p : Plan} : awpEarly P md [] p K E H = awpPlan P md p K E H := (rfl)
@[simp] theorem awpEarly_none {dst : Option Nat} {k : AK} {xs : List Opd} {os : List AOper} {p : Plan} : awpEarly P md (⟨dst, k, xs, none⟩ :: os) p K E H = (viewOk ⟨dst, k, xs, none⟩ E ∧ awpX P md ⟨dst, k, xs, none⟩ E H (awpEarly P md os p K)) := (rfl)
end

attribute [simp] viewOk frzL frzC

end Go.Proofs.Dev
