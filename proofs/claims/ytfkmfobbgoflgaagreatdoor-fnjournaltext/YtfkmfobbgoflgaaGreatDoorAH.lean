/- Contracts of the functions of the program over slots and rows, each proved against the program itself; no condition beyond those that each theorem names. -/
import Derived.Test.YtfkmfobbgoflgaaGreatDoorAG
import Derived.ProofKit
import Derived.Lib.SmallJoins
import Derived.Deep.Grids
import Derived.Lib.Strings
import Derived.SliceStrings
import Derived.ChangeVars
import Derived.LaidMore
import Derived.Lay
import Derived.MakeChecks
import Derived.Shelf.Vars
import Derived.Lib.SlicesCompact
import Derived.Sort.Row
import Derived.Sort.Grow

set_option linter.unusedSimpArgs false
set_option linter.unusedVariables false

namespace Go.Proofs.Dev

/-- Numbers, truths, as elements of a row. -/
def ints (xs : List Int) : List AV := xs.map fun n => .v (.int .i64 n)
def bools (bs : List Bool) : List AV := bs.map fun b => .v (.bool b)

/-- What stands at an index; 0, false behind the end. -/
def ati (xs : List Int) (i : Int) : Int := xs.getD i.toNat 0
def atb (bs : List Bool) (i : Int) : Bool := bs.getD i.toNat false

@[simp] theorem ints_length (xs : List Int) : (ints xs).length = xs.length := by simp [ints]
@[simp] theorem bools_length (xs : List Bool) : (bools xs).length = xs.length := by simp [bools]
@[simp] theorem ints_nil : ints [] = [] := rfl
@[simp] theorem bools_nil : bools [] = [] := rfl
theorem ints_append (a b : List Int) : ints (a ++ b) = ints a ++ ints b := by simp [ints]
theorem bools_append (a b : List Bool) : bools (a ++ b) = bools a ++ bools b := by simp [bools]
theorem ints_one (a : Int) : ints [a] = [.v (.int .i64 a)] := rfl
theorem bools_one (a : Bool) : bools [a] = [.v (.bool a)] := rfl
@[simp] theorem ints_eq_nil (xs : List Int) : (ints xs = []) = (xs = []) := by cases xs <;> simp [ints]
@[simp] theorem bools_eq_nil (xs : List Bool) : (bools xs = []) = (xs = []) := by cases xs <;> simp [bools]

theorem ints_get {xs : List Int} {i : Int} (h1 : i.toNat < xs.length) : (ints xs)[i.toNat]? = some (.v (.int .i64 (ati xs i))) := by simp [ints, ati, h1]
theorem bools_get {xs : List Bool} {i : Int} (h1 : i.toNat < xs.length) : (bools xs)[i.toNat]? = some (.v (.bool (atb xs i))) := by simp [bools, atb, h1]

theorem iadr_ints {c : Nat} {k : IntKind} {xs : List Int} {i : Int} (h0 : 0 ≤ i) (h1 : i < xs.length) : aiadr 1 (.sl c 1 (ints xs)) (.v (.int k i)) = some (.vp c [.v (.int .i64 (ati xs i))] 0) := by
  simp [aiadr, h0, ints_get (xs := xs) (i := i) (by omega)]
theorem iadr_bools {c : Nat} {k : IntKind} {xs : List Bool} {i : Int} (h0 : 0 ≤ i) (h1 : i < xs.length) : aiadr 1 (.sl c 1 (bools xs)) (.v (.int k i)) = some (.vp c [.v (.bool (atb xs i))] 0) := by
  simp [aiadr, h0, bools_get (xs := xs) (i := i) (by omega)]
@[simp] theorem iadr_ints_ite {c : Nat} {k : IntKind} {xs : List Int} {i : Int} : aiadr 1 (.sl c 1 (ints xs)) (.v (.int k i)) = if 0 ≤ i ∧ i < xs.length then some (.vp c [.v (.int .i64 (ati xs i))] 0) else none := by
  by_cases h : 0 ≤ i ∧ i < xs.length
  · rw [if_pos h, iadr_ints h.1 h.2]
  · rw [if_neg h]
    by_cases h0 : 0 ≤ i
    · have : ¬ i.toNat < xs.length := by omega
      simp [aiadr, h0, ints, this]
    · simp [aiadr, h0]
@[simp] theorem iadr_bools_ite {c : Nat} {k : IntKind} {xs : List Bool} {i : Int} : aiadr 1 (.sl c 1 (bools xs)) (.v (.int k i)) = if 0 ≤ i ∧ i < xs.length then some (.vp c [.v (.bool (atb xs i))] 0) else none := by
  by_cases h : 0 ≤ i ∧ i < xs.length
  · rw [if_pos h, iadr_bools h.1 h.2]
  · rw [if_neg h]
    by_cases h0 : 0 ≤ i
    · have : ¬ i.toNat < xs.length := by omega
      simp [aiadr, h0, bools, this]
    · simp [aiadr, h0]
@[simp] theorem iadr_ls_ite {sz id off n : Nat} {k : IntKind} {i : Int} : aiadr sz (.ls sz id off n) (.v (.int k i)) = if 0 ≤ i ∧ i < n then some (.lp sz id (off + i.toNat) 0) else none := by
  simp [aiadr]

@[simp] theorem vwL_ints (c : Nat) : ∀ xs : List Int, vwL c (ints xs) = ints xs
  | [] => rfl
  | x :: xs => by show vw c _ :: vwL c (ints xs) = _ :: ints xs; rw [vwL_ints c xs]; rfl
@[simp] theorem vwL_bools (c : Nat) : ∀ xs : List Bool, vwL c (bools xs) = bools xs
  | [] => rfl
  | x :: xs => by show vw c _ :: vwL c (bools xs) = _ :: bools xs; rw [vwL_bools c xs]; rfl
theorem take_ints (n : Nat) (xs : List Int) : (ints xs).take n = ints (xs.take n) := by simp [ints]
theorem take_bools (n : Nat) (xs : List Bool) : (bools xs).take n = bools (xs.take n) := by simp [bools]
@[simp] theorem take_ints_all (xs : List Int) : (ints xs).take xs.length = ints xs := by rw [take_ints, List.take_length]
@[simp] theorem take_bools_all (xs : List Bool) : (bools xs).take xs.length = bools xs := by rw [take_bools, List.take_length]
@[simp] theorem flatL_ints : ∀ xs : List Int, flatL (ints xs) = true
  | [] => rfl
  | x :: xs => by show (flatE1 (.v (.int .i64 x)) && flatL (ints xs)) = true; rw [flatL_ints xs]; rfl
@[simp] theorem flatL_bools : ∀ xs : List Bool, flatL (bools xs) = true
  | [] => rfl
  | x :: xs => by show (flatE1 (.v (.bool x)) && flatL (bools xs)) = true; rw [flatL_bools xs]; rfl
@[simp] theorem okL_ints : ∀ xs : List Int, okL (ints xs) = true
  | [] => rfl
  | x :: xs => by show (okE (.v (.int .i64 x)) && okL (ints xs)) = true; rw [okL_ints xs]; rfl
@[simp] theorem okL_bools : ∀ xs : List Bool, okL (bools xs) = true
  | [] => rfl
  | x :: xs => by show (okE (.v (.bool x)) && okL (bools xs)) = true; rw [okL_bools xs]; rfl

theorem ints_set (xs : List Int) (i : Nat) (x : Int) : (ints xs).set i (.v (.int .i64 x)) = ints (xs.set i x) := by simp [ints, List.map_set]
theorem bools_set (xs : List Bool) (i : Nat) (x : Bool) : (bools xs).set i (.v (.bool x)) = bools (xs.set i x) := by simp [bools, List.map_set]
theorem ints_rep (n : Nat) (x : Int) : List.replicate n (.v (.int .i64 x)) = ints (List.replicate n x) := by simp [ints]
theorem bools_rep (n : Nat) (x : Bool) : List.replicate n (.v (.bool x)) = bools (List.replicate n x) := by simp [bools]

attribute [simp] abox amk aslice bnds optI okE allOk okCell ast afadr setL aapp baseOf srcOf killAll aextr aConv aMin1 zipP aparts absl sizedB purgeH purgeR okL flatL flatE1 flatV allV rv rvL ownL treesL backL rd rdL rd0 rd0L isBot vw vwL padN thawL fitK Value.oneCell' asslice asidx aidx

theorem call_on {P : Program} {K : ES → Heap → Prop} {E : ES} {H : Heap} {f : Nat} {ms : List Bool} {avs : List AV} {dst : Option Nat} {ts : List AV} {r : AV} {ups : List AV} (hs : SoundAt P f ts r ups)
    (h : ∃ ks, ownL H avs ms = some ks ∧ ks.Nodup ∧ treesL H (killAll ks H) ks.isEmpty avs ms = some ts ∧ ∃ p, backL avs ms ups (thaw r H.length).2.2 = some p ∧
      K (putE (if ks.isEmpty then E else purgeE E) dst (thaw r H.length).1) (setRows ((thaw r H.length).2.1 ++ p.1) (padN (p.2 - H.length) (killAll ks (if ks.isEmpty then H else purgeH H))))) : callNode P f ms avs E H dst K := by
  obtain ⟨ks, h1, h2, h3, p, h4, h5⟩ := h
  exact ⟨ks, h1, h2, ts, h3, _, hs.set, by rintro _ _ ⟨rfl, rfl⟩; exact ⟨p, h4, h5⟩⟩

theorem call_onS {P : Program} {K : ES → Heap → Prop} {E : ES} {H : Heap} {f : Nat} {ms : List Bool} {avs : List AV} {dst : Option Nat} {ts : List AV} {post : AV → List AV → Prop} (hs : SoundSet P f ts post)
    (h : ∃ ks, ownL H avs ms = some ks ∧ ks.Nodup ∧ treesL H (killAll ks H) ks.isEmpty avs ms = some ts ∧ ∀ r ups, post r ups → ∃ p, backL avs ms ups (thaw r H.length).2.2 = some p ∧
      K (putE (if ks.isEmpty then E else purgeE E) dst (thaw r H.length).1) (setRows ((thaw r H.length).2.1 ++ p.1) (padN (p.2 - H.length) (killAll ks (if ks.isEmpty then H else purgeH H))))) : callNode P f ms avs E H dst K := by
  obtain ⟨ks, h1, h2, h3, h4⟩ := h
  exact ⟨ks, h1, h2, ts, h3, post, hs, h4⟩

/-- All indices below n. -/
def allB (n : Nat) (p : Nat → Bool) : Bool := (List.range n).all p
theorem allB_zero (p : Nat → Bool) : allB 0 p = true := rfl
theorem allB_succ (n : Nat) (p : Nat → Bool) : allB (n + 1) p = (allB n p && p n) := by simp [allB, List.range_succ]
theorem allB_iff (n : Nat) (p : Nat → Bool) : allB n p = true ↔ ∀ k, k < n → p k = true := by simp [allB]
theorem allB_false {n k : Nat} {p : Nat → Bool} (hk : k < n) (h : p k = false) : allB n p = false := by
  cases he : allB n p with
  | false => rfl
  | true => rw [allB_iff] at he; rw [he k hk] at h; cases h

end Go.Proofs.Dev

namespace Go.Proofs.Dev

theorem RL_bots {C : Ctx} : ∀ (n : Nat) {S : List Nat} {us : List Value}, RL C (List.replicate n .bot) S us → S = [] ∧ ∀ C', RL C' (List.replicate n .bot) [] us
  | 0, S, us, h => by
    rw [List.replicate_zero, RL] at h
    exact ⟨h.1, fun C' => by rw [List.replicate_zero, RL]; exact ⟨rfl, h.2⟩⟩
  | n + 1, S, us, h => by
    rw [List.replicate_succ, RL] at h
    obtain ⟨S1, S2, u, us', rfl, rfl, h1, h2⟩ := h
    rw [R] at h1
    obtain ⟨h3, h4⟩ := RL_bots n h2
    refine ⟨by rw [h1, h3]; rfl, fun C' => ?_⟩
    rw [List.replicate_succ, RL]
    exact ⟨[], [], u, us', rfl, rfl, by rw [R], h4 C'⟩

theorem SoundAt.frozen {P : Program} {f n : Nat} {as : List AV} {r : AV} (hS : ∀ C S us, RL C as S us → S = []) (h : SoundAt P f as r (List.replicate n .bot)) : SoundAt P f as (vw 0 r) (List.replicate n .bot) := by
  intro w forb us S hr hnd hsz hforb
  have hS0 : S = [] := hS _ _ _ hr
  subst hS0
  refine Calls.mono (h w forb us [] hr hnd hsz hforb) ?_
  rintro e w' ⟨v, S', he, hv, hnd', hmem, hk⟩
  rw [RL] at hv
  obtain ⟨S1, S2, u, us', rfl, hu, h1, h2⟩ := hv
  cases hu
  obtain ⟨rfl, h4⟩ := RL_bots n h2
  refine ⟨v, [], he, ?_, List.nodup_nil, by simp, hk⟩
  rw [RL]
  refine ⟨[], [], v, us, rfl, rfl, ?_, h4 _⟩
  refine R.open (c := 0) (vw_ok (C' := cout w' [] forb) 0 r (cout w' (S1 ++ []) forb) (fun _ => rfl) rfl ?_ S1 v h1 ?_)
  · intro d b _ hb
    match d, hb with
    | 0, hb =>
      intro hx
      rcases hx with hx | hx
      · cases hx
      · exact hb (.inr hx)
    | d + 1, hb => exact absurd trivial hb
  · intro x hx hbad
    rcases hbad with hbad | hbad
    · cases hbad
    · rcases (hmem x (by simp [hx])).2 with h5 | h5
      · have := hforb.1 x hbad
        omega
      · cases h5

end Go.Proofs.Dev

namespace Go.Proofs.Dev

mutual
/-- Without views, places and rows. -/
def noV : AV → Bool
  | .bot => true
  | .v _ => true
  | .os _ es => noVL es
  | .op cs => noVL cs
  | .agg cs => noVL cs
  | .tup cs => noVL cs
  | .fn _ cs => noVL cs
  | _ => false
def noVL : List AV → Bool
  | [] => true
  | a :: as => noV a && noVL as
end

theorem noVL_append : ∀ (a b : List AV), noVL (a ++ b) = (noVL a && noVL b)
  | [], b => by simp [noVL]
  | x :: a, b => by simp [noVL, noVL_append a b, Bool.and_assoc]

theorem noV_cells (e : AV) (h : noV e = true) : noVL (cellsE e) = true := by
  cases e <;> simp_all [cellsE, noVL, noV]

theorem noVL_flat : ∀ (es : List AV), noVL es = true → noVL (flatE es) = true
  | [], _ => by simp [flatE, noVL]
  | e :: es, h => by
    simp only [noVL, Bool.and_eq_true] at h
    simp only [flatE, noVL_append, Bool.and_eq_true]
    exact ⟨noV_cells e h.1, noVL_flat es h.2⟩

mutual
theorem noV_ok {C C' : Ctx} (hw : C'.w = C.w) : ∀ (a : AV) (S : List Nat) (u : Value), noV a = true → R C a S u → R C' a S u
  | .bot, S, u, _, hr => by rw [R] at *; exact hr
  | .v x, S, u, _, hr => by rw [R] at *; exact hr
  | .os sz es, S, u, hn, hr => by
    rw [R] at *
    simp only [noV] at hn
    obtain ⟨a, cap, hu, hc, hr⟩ := hr
    refine ⟨a, cap, hu, hc, orR ?_ hr⟩
    rintro ⟨h0, b, p, us, S', rfl, ha, hb, hroom, hcells, hsz, hrl⟩
    exact ⟨h0, b, p, us, S', rfl, ha, by rw [hw]; exact hb, by rw [hw]; exact hroom, by rw [hw]; exact hcells, hsz, noVL_ok (C := C.at 0) (C' := C'.at 0) hw _ _ _ (noVL_flat es hn) hrl⟩
  | .op cs, S, u, hn, hr => by
    rw [R] at *
    simp only [noV] at hn
    obtain ⟨b, p, us, S', rfl, hu, hb, hroom, hcells, hrl⟩ := hr
    exact ⟨b, p, us, S', rfl, hu, by rw [hw]; exact hb, by rw [hw]; exact hroom, by rw [hw]; exact hcells, noVL_ok (C := C.at 0) (C' := C'.at 0) hw _ _ _ hn hrl⟩
  | .agg cs, S, u, hn, hr => by
    rw [R] at *
    simp only [noV] at hn
    obtain ⟨us, hu, hrl⟩ := hr
    exact ⟨us, hu, noVL_ok hw _ _ _ hn hrl⟩
  | .tup cs, S, u, hn, hr => by
    rw [R] at *
    simp only [noV] at hn
    obtain ⟨us, hu, hrl⟩ := hr
    exact ⟨us, hu, noVL_ok hw _ _ _ hn hrl⟩
  | .fn f cs, S, u, hn, hr => by
    rw [R] at *
    simp only [noV] at hn
    obtain ⟨us, hu, hrl⟩ := hr
    exact ⟨us, hu, noVL_ok hw _ _ _ hn hrl⟩
  | .sl .., S, u, hn, hr => by simp [noV] at hn
  | .vp .., S, u, hn, hr => by simp [noV] at hn
  | .ls .., S, u, hn, hr => by simp [noV] at hn
  | .lw .., S, u, hn, hr => by simp [noV] at hn
  | .lp .., S, u, hn, hr => by simp [noV] at hn
termination_by a => SizeOf.sizeOf a
decreasing_by all_goals (first | (have := sizeOf_flatE es; simp; omega) | (simp; done) | (simp; omega))
theorem noVL_ok {C C' : Ctx} (hw : C'.w = C.w) : ∀ (as : List AV) (S : List Nat) (us : List Value), noVL as = true → RL C as S us → RL C' as S us
  | [], S, us, _, hr => by rw [RL] at *; exact hr
  | a :: as, S, us, hn, hr => by
    rw [RL] at *
    simp only [noVL, Bool.and_eq_true] at hn
    obtain ⟨S1, S2, u, us', rfl, rfl, h1, h2⟩ := hr
    exact ⟨S1, S2, u, us', rfl, rfl, noV_ok hw _ _ _ hn.1 h1, noVL_ok hw _ _ _ hn.2 h2⟩
termination_by a => SizeOf.sizeOf a
decreasing_by all_goals (simp; omega)
end

theorem noVL_bots : ∀ n : Nat, noVL (List.replicate n .bot) = true
  | 0 => by simp [noVL]
  | n + 1 => by simp [List.replicate_succ, noVL, noV, noVL_bots n]

mutual
/-- Nothing that is owned. -/
def noO : AV → Bool
  | .bot => true
  | .v _ => true
  | .sl .. => true
  | .vp .. => true
  | .agg cs => noOL cs
  | .tup cs => noOL cs
  | .fn _ cs => noOL cs
  | _ => false
def noOL : List AV → Bool
  | [] => true
  | a :: as => noO a && noOL as
end

mutual
theorem noO_ok {C : Ctx} : ∀ (a : AV) (S : List Nat) (u : Value), noO a = true → R C a S u → S = []
  | .bot, S, u, _, hr => by rw [R] at hr; exact hr
  | .v x, S, u, _, hr => by rw [R] at hr; exact hr.1
  | .sl .., S, u, _, hr => by rw [R] at hr; exact hr.1
  | .vp .., S, u, _, hr => by rw [R] at hr; exact hr.1
  | .agg cs, S, u, hn, hr => by
    rw [R] at hr
    obtain ⟨us, _, hrl⟩ := hr
    exact noOL_ok cs S us (by simpa [noO] using hn) hrl
  | .tup cs, S, u, hn, hr => by
    rw [R] at hr
    obtain ⟨us, _, hrl⟩ := hr
    exact noOL_ok cs S us (by simpa [noO] using hn) hrl
  | .fn f cs, S, u, hn, hr => by
    rw [R] at hr
    obtain ⟨us, _, hrl⟩ := hr
    exact noOL_ok cs S us (by simpa [noO] using hn) hrl
  | .os .., S, u, hn, hr => by simp [noO] at hn
  | .op .., S, u, hn, hr => by simp [noO] at hn
  | .ls .., S, u, hn, hr => by simp [noO] at hn
  | .lw .., S, u, hn, hr => by simp [noO] at hn
  | .lp .., S, u, hn, hr => by simp [noO] at hn
theorem noOL_ok {C : Ctx} : ∀ (as : List AV) (S : List Nat) (us : List Value), noOL as = true → RL C as S us → S = []
  | [], S, us, _, hr => by rw [RL] at hr; exact hr.1
  | a :: as, S, us, hn, hr => by
    rw [RL] at hr
    simp only [noOL, Bool.and_eq_true] at hn
    obtain ⟨S1, S2, u, us', rfl, rfl, h1, h2⟩ := hr
    rw [noO_ok a S1 u hn.1 h1, noOL_ok as S2 us' hn.2 h2]
    rfl
end

theorem SoundAt.lift {P : Program} {f n : Nat} {as : List AV} {r : AV} (hS : ∀ C S us, RL C as S us → S = []) (hv : noV r = true) (h : SoundAt P f (vwL 0 as) r (List.replicate n .bot)) : SoundAt P f as r (List.replicate n .bot) := by
  intro w forb us S hr hnd hsz hforb
  have hS0 : S = [] := hS _ _ _ hr
  subst hS0
  have hin : RL (cin w [] fun _ => False) (vwL 0 as) [] us := by
    refine RL.open (c := 0) (vwL_ok (C' := cin w [] fun _ => False) 0 as (cin w [] forb) (fun _ => rfl) rfl ?_ [] us hr (by simp))
    intro d b _ _ hx
    rcases hx with hx | hx
    · cases hx
    · exact hx
  refine Calls.mono (h w (fun _ => False) us [] hin List.nodup_nil (by simp) ⟨by simp, hforb.2.mono fun x hx => by simp at hx⟩) ?_
  rintro e w' ⟨v, S', he, hvv, hnd', hmem, hk⟩
  refine ⟨v, S', he, ?_, hnd', hmem, hk⟩
  exact noVL_ok (C := cout w' S' fun _ => False) (C' := cout w' S' forb) rfl _ _ _ (by simp only [noVL, hv, noVL_bots n, Bool.and_true]) hvv

end Go.Proofs.Dev

namespace Go.Proofs.Dev
open Go.ChangeShapes Go.WideShapes Go.ChangeAt Go.RowKit

section
variable {H : Type} {enc : TypeId × Value → H} {P : Program} {W : World}

theorem cell_spot {w : World} {a : Addr} {v : Value} (h : w.cell? a = some v) : a = ⟨a.block, a.off, none⟩ := by
  obtain ⟨b, o, s⟩ := a
  cases s with
  | none => rfl
  | some s =>
    unfold World.cell? at h
    split at h <;> simp at h

/-- A row of numbers is read. -/
theorem view_row {xs : List Value} {es : List AV} {a : Addr} {len cap : Nat} (hl : len ≤ cap) (hx : xs.length = len) (he : es.length = len) (hcell : ∀ i v, xs[i]? = some v → W.cell? (a.add i) = some v)
    (hs : Sized 1 es) (hr : RL ((cin W [] fun _ => False).at 1) (flatE es) [] xs) : R (cin W [] fun _ => False) (.sl 1 1 es) [] (.slice (some a) len cap) := by
  rw [R]
  refine ⟨rfl, some a, cap, by rw [he], by omega, ?_⟩
  by_cases h0 : len = 0
  · left; exact List.eq_nil_of_length_eq_zero (by omega)
  right
  have hc0 := hcell 0 _ (by rw [List.getElem?_eq_getElem (by omega)])
  have ha0 : a.add 0 = a := by cases a; rfl
  rw [ha0] at hc0
  have hsp := cell_spot hc0
  refine ⟨a.block, a.off, xs, by rw [← hsp], block_lt_of_cell hc0, by simp [cin], ?_, hs, hr⟩
  intro j u hj
  have := hcell j u hj
  rw [hsp, addr_add] at this
  exact this

theorem joinedFacts_of {P : Program} {f : FuncId} {fn : Func} {s : ChangeSpec} {c : OpenClaim} (h0 : (c.wf (OpenSpec.ofChange s)) = true) (h1 : (laidOutB P) = true) (h2 : (mapsRowed P) = true) (h3 : (fn.params.all (P.readableRec ·)) = true) (h4 : (namedTie P c.named s.vars) = true) (h5 : ((c.stops == [])) = true) (h6 : ((P.stops == [])) = true) (h7 : ((c.knobs == [])) = true) (h8 : ((P.stopKnobs == [])) = true) (h9 : ((c.inPlace == P.inPlace f)) = true) (h10 : ((c.unfollowed == P.unfollowed f)) = true) (h11 : ((c.recurses == P.recurses f)) = true) (h12 : ((c.named == P.varsNamed f)) = true) (h13 : ((c.maps == (fn.params.toList ++ s.plain.varTypes P).any (P.mapsRec ·))) = true) (h14 : ((c.ifaces == (fn.params.toList ++ s.plain.varTypes P).any (P.ifacesRec ·))) = true) (h15 : ((c.mapsOut == P.mapsAmong fn.resultTypes.toList)) = true) (h16 : ((c.loops == (fn.params.toList ++ s.plain.varTypes P).any (P.loopsFrom ·))) = true) (h17 : ((c.wideKeys == (fn.params.toList ++ s.plain.varTypes P ++ fn.resultTypes.toList).any (P.wideKeysFrom ·))) = true) (h18 : (s.vars.all (P.varReadable ·)) = true) (h19 : (fn.resultTypes.all (fun t => P.readableRec t && decide (t < P.types.size))) = true) (h20 : ((c.ifacesOut == fn.resultTypes.toList.any (P.ifacesRec ·))) = true) (h21 : ((c.loopsOut == fn.resultTypes.toList.any (P.loopsFrom ·))) = true) (h22 : ((c.plainKeys == P.plainKeys)) = true) (h23 : (c.shortTexts.isNone) = true) (h24 : (P.stopsHeard) = true) (h25 : (P.mayEnter) = true) (h26 : ((c.lifted == P.liftsFinal)) = true) (h27 : ((P.make == some c.make)) = true) (h28 : c.domain = [] ∧ c.kinds = []) (h29 : ((c.pinned == c.pinnedBy)) = true) (h30 : ((c.veiled == (fn.params.toList ++ s.plain.varTypes P ++ fn.resultTypes.toList).any (P.veiledRec ·))) = true) (h31 : (c.veiledFits P fn.params.toList (fn.params.toList ++ s.plain.varTypes P ++ fn.resultTypes.toList)) = true) : joinedFacts P f fn s c = true := by
  simp only [joinedFacts, Bool.and_eq_true]
  exact ⟨⟨⟨⟨⟨⟨⟨⟨⟨⟨⟨⟨⟨⟨⟨⟨⟨⟨⟨⟨⟨⟨⟨⟨⟨⟨⟨⟨⟨⟨⟨h0, h1⟩, h2⟩, h3⟩, h4⟩, h5⟩, h6⟩, h7⟩, h8⟩, h9⟩, h10⟩, h11⟩, h12⟩, h13⟩, h14⟩, h15⟩, h16⟩, h17⟩, h18⟩, h19⟩, h20⟩, h21⟩, h22⟩, h23⟩, h24⟩, h25⟩, h26⟩, h27⟩, by simp [h28]⟩, h29⟩, h30⟩, h31⟩

theorem kept_below {B : Nat} {w w' : World} (h : Kept B [] w w') : Below B w w' := ⟨h.os, h.tape, h.output, h.size, fun k hk => h.block k hk (by simp)⟩

theorem trodAll_below (hl : laidOutB P = true) {W' : World} (hb : Below W.heap.size W W') : ∀ (ts : List TypeId) (vs : List Value) (ds : List (DataW H)) (ps : List MemPlace), (∀ t ∈ ts, P.readableRec t = true ∧ t < P.types.size) →
    DataW.TrodAll enc P W 0 (fun _ => true) true ts vs ds ps → (∀ x ∈ ps, x.block < W.heap.size) → DataW.TrodAll enc P W' 0 (fun b => decide (b < W.heap.size)) true ts vs ds ps
  | [], [], [], ps, _, h, _ => h
  | t :: ts, v :: vs, d :: ds, ps, hr, h, hlt => by
    obtain ⟨p, q, h1, h2, rfl⟩ := h
    obtain ⟨r1, r2⟩ := hr t (by simp)
    exact ⟨p, q, Below.trod hl r1 r2 h1 hb (fun x hx => hlt x (by simp [hx])), trodAll_below hl hb ts vs ds q (fun t ht => hr t (by simp [ht])) h2 (fun x hx => hlt x (by simp [hx])), rfl⟩
  | [], _ :: _, _, _, _, h, _ => by cases h
  | [], [], _ :: _, _, _, h, _ => by cases h
  | _ :: _, [], _, _, _, h, _ => by cases h
  | _ :: _, _ :: _, [], _, _, h, _ => by cases h

end
end Go.Proofs.Dev

namespace Go.Proofs.Dev
open Go.ChangeShapes Go.WideShapes Go.ChangeAt Go.RowKit

def u8s (xs : List Int) : List AV := xs.map fun n => .v (.int .u8 n)
def Byt (xs : List Int) : Prop := ∀ x ∈ xs, 0 ≤ x ∧ x ≤ 255

@[simp] theorem u8s_length (xs : List Int) : (u8s xs).length = xs.length := by simp [u8s]
@[simp] theorem u8s_nil : u8s [] = [] := rfl
@[simp] theorem u8s_eq_nil (xs : List Int) : (u8s xs = []) = (xs = []) := by cases xs <;> simp [u8s]
theorem u8s_get {xs : List Int} {i : Int} (h1 : i.toNat < xs.length) : (u8s xs)[i.toNat]? = some (.v (.int .u8 (ati xs i))) := by simp [u8s, ati, h1]
theorem iadr_u8s {c : Nat} {k : IntKind} {xs : List Int} {i : Int} (h0 : 0 ≤ i) (h1 : i < xs.length) : aiadr 1 (.sl c 1 (u8s xs)) (.v (.int k i)) = some (.vp c [.v (.int .u8 (ati xs i))] 0) := by
  simp [aiadr, h0, u8s_get (xs := xs) (i := i) (by omega)]
@[simp] theorem iadr_u8s_ite {c : Nat} {k : IntKind} {xs : List Int} {i : Int} : aiadr 1 (.sl c 1 (u8s xs)) (.v (.int k i)) = if 0 ≤ i ∧ i < xs.length then some (.vp c [.v (.int .u8 (ati xs i))] 0) else none := by
  by_cases h : 0 ≤ i ∧ i < xs.length
  · rw [if_pos h, iadr_u8s h.1 h.2]
  · rw [if_neg h]
    by_cases h0 : 0 ≤ i
    · have : ¬ i.toNat < xs.length := by omega
      simp [aiadr, h0, u8s, this]
    · simp [aiadr, h0]
@[simp] theorem vwL_u8s (c : Nat) : ∀ xs : List Int, vwL c (u8s xs) = u8s xs
  | [] => rfl
  | x :: xs => by show vw c _ :: vwL c (u8s xs) = _ :: u8s xs; rw [vwL_u8s c xs]; rfl
theorem take_u8s (n : Nat) (xs : List Int) : (u8s xs).take n = u8s (xs.take n) := by simp [u8s]
@[simp] theorem take_u8s_all (xs : List Int) : (u8s xs).take xs.length = u8s xs := by rw [take_u8s, List.take_length]
@[simp] theorem flatL_u8s : ∀ xs : List Int, flatL (u8s xs) = true
  | [] => rfl
  | x :: xs => by show (flatE1 (.v (.int .u8 x)) && flatL (u8s xs)) = true; rw [flatL_u8s xs]; rfl
@[simp] theorem okL_u8s : ∀ xs : List Int, okL (u8s xs) = true
  | [] => rfl
  | x :: xs => by show (okE (.v (.int .u8 x)) && okL (u8s xs)) = true; rw [okL_u8s xs]; rfl

theorem byt_at {xs : List Int} (h : Byt xs) (i : Int) : 0 ≤ ati xs i ∧ ati xs i ≤ 255 := by
  unfold ati
  by_cases hi : i.toNat < xs.length
  · simp only [List.getD_eq_getElem?_getD, List.getElem?_eq_getElem hi, Option.getD_some]
    exact h _ (List.getElem_mem hi)
  · simp [List.getElem?_eq_none (show xs.length ≤ i.toNat by omega)]
theorem byt_take {xs : List Int} (h : Byt xs) (n : Nat) : Byt (xs.take n) := fun x hx => h x (List.mem_of_mem_take hx)

theorem flatE_u8s : ∀ xs : List Int, flatE (u8s xs) = u8s xs
  | [] => rfl
  | x :: xs => by show cellsE _ ++ flatE (u8s xs) = _ :: u8s xs; rw [flatE_u8s xs]; rfl
theorem RL_u8s (C : Ctx) : ∀ xs : List Int, RL C (u8s xs) [] (xs.map fun n => Value.int .u8 n)
  | [] => by show RL C [] [] []; rw [RL]; exact ⟨rfl, rfl⟩
  | x :: xs => by
    show RL C (.v (.int .u8 x) :: u8s xs) [] (.int .u8 x :: xs.map fun n => Value.int .u8 n)
    rw [RL]; exact ⟨[], [], _, _, rfl, rfl, by rw [R]; exact ⟨rfl, rfl⟩, RL_u8s C xs⟩
theorem sized_u8s (xs : List Int) : Sized 1 (u8s xs) := by
  intro e he
  obtain ⟨n, _, rfl⟩ := List.mem_map.1 he
  rfl
theorem noOL_u8s (c : Nat) (xs : List Int) : noOL [AV.sl c 1 (u8s xs)] = true := rfl

section
variable {H : Type} {enc : TypeId × Value → H} {P : Program} {W : World}

theorem read_bytes' {t e : TypeId} {v : Value} {x : DataW H × List MemPlace} {fuel : Nat} (ht : P.underlying t = some (.slice e)) (he : P.underlying e = some (.int .u8)) (hc : P.cellsOf e = 1)
    (hf : DataW.trod enc P W 0 (fun _ => true) true fuel t [v] = some x) :
    ∃ xs : List Int, xs.length ≤ maxLen ∧ Byt xs ∧ R (cin W [] fun _ => False) (.sl 1 1 (u8s xs)) [] v := by
  rcases open_ints ht he hc hf with ⟨hcs, hx⟩ | ⟨a, len, cap, zs, hcs, _, hl, hm, hz, hx, hcell, hwf⟩
  · simp at hcs
    subst hcs
    exact ⟨[], by simp, by intro x hx; simp at hx, by rw [R]; exact ⟨rfl, none, 0, rfl, Nat.le_refl _, .inl rfl⟩⟩
  · simp at hcs
    subst hcs
    simp at hz
    have hlen : (zs.take len).length = len := by simp; omega
    refine ⟨zs.take len, by omega, ?_, view_row (xs := (zs.take len).map fun n => .int .u8 n) hl (by simpa using hlen) (by simpa using hlen) ?_ (sized_u8s _) (by rw [flatE_u8s]; exact RL_u8s _ _)⟩
    · intro n hn
      have h1 := hwf n (List.mem_of_mem_take hn)
      have e1 : IntKind.u8.min = 0 := by decide
      have e2 : IntKind.u8.max = 255 := by decide
      simp [Lit.wf, e1, e2] at h1
      omega
    intro i v hi
    simp only [List.getElem?_map, Option.map_eq_some_iff] at hi
    obtain ⟨n, hn, rfl⟩ := hi
    have hi' : i < len := by
      have := (List.getElem?_eq_some_iff.1 hn).1
      omega
    rw [List.getElem?_take_of_lt hi'] at hn
    rw [hcell i (by omega)]
    simp [hn]

theorem read_bytes {t e : TypeId} {v : Value} {d : DataW H} {p : List MemPlace} {base : Nat} (ht : P.underlying t = some (.slice e)) (he : P.underlying e = some (.int .u8)) (hc : P.cellsOf e = 1)
    (hv : Value.okWide P W .any base t v) (h : DataW.Trod enc P W 0 (fun _ => true) true t v d p) :
    ∃ xs : List Int, xs.length ≤ maxLen ∧ Byt xs ∧ R (cin W [] fun _ => False) (.sl 1 1 (u8s xs)) [] v := by
  obtain ⟨a0, len, cap, rfl⟩ := okWide_slice ht hv
  obtain ⟨fuel, hf⟩ := h
  exact read_bytes' ht he hc hf

end
end Go.Proofs.Dev

namespace Go.Proofs.Dev

/-- A text. -/
abbrev tx (l : List UInt8) : Value := .string ⟨l.toArray⟩

@[simp] theorem tx_size (l : List UInt8) : (ByteArray.mk l.toArray).size = l.length := by simp [ByteArray.size]
@[simp] theorem tx_toList (l : List UInt8) : (ByteArray.mk l.toArray).toList = l := by rw [ByteArray.toList_eq]
@[simp] theorem tx_data (l : List UInt8) : (ByteArray.mk l.toArray).data.toList = l := rfl
@[simp] theorem tx_append (a b : List UInt8) : ByteArray.mk a.toArray ++ ByteArray.mk b.toArray = ByteArray.mk (a ++ b).toArray := by
  apply ByteArray.ext
  simp
@[simp] theorem tx_extract (l : List UInt8) (i j : Nat) : (ByteArray.mk l.toArray).extract i j = ByteArray.mk ((l.drop i).take (j - i)).toArray := by
  rw [Go.Lib.extract_eq]
@[simp] theorem tx_nums (ns : List Int) : strOfNums ns = ByteArray.mk (ns.map fun n => UInt8.ofNat n.toNat).toArray := rfl
@[simp] theorem tx_getElem (l : List UInt8) (k : Nat) (h : k < (ByteArray.mk l.toArray).size) : (ByteArray.mk l.toArray)[k]'h = l[k]'(by simpa using h) := rfl
@[simp] theorem tx_getElem? (l : List UInt8) (k : Nat) : (ByteArray.mk l.toArray)[k]? = l[k]? := by
  by_cases h : k < l.length
  · rw [getElem?_pos (ByteArray.mk l.toArray) k (by rw [tx_size]; exact h), List.getElem?_eq_getElem h]; rfl
  · rw [getElem?_neg (ByteArray.mk l.toArray) k (by rw [tx_size]; exact h), List.getElem?_eq_none (by omega)]
@[simp] theorem u8_inj (a b : UInt8) : ((a.toNat : Int) = (b.toNat : Int)) ↔ a = b := by
  rw [← UInt8.toNat_inj]
  omega
/-- The byte at an index. -/
def btx (l : List UInt8) (i : Int) : Int := ((l.getD i.toNat 0).toNat : Int)
@[simp 1100] theorem asidx_tx {l : List UInt8} {k : IntKind} {i : Int} : asidx (.v (.string (ByteArray.mk l.toArray))) (.v (.int k i)) = if 0 ≤ i ∧ i < l.length then some (.v (.int .u8 (btx l i))) else none := by
  simp only [asidx]
  by_cases h0 : 0 ≤ i
  · by_cases h1 : i < l.length
    · have hl : i.toNat < (ByteArray.mk l.toArray).size := by rw [tx_size]; omega
      have hl2 : i.toNat < l.length := by omega
      have e : (ByteArray.mk l.toArray)[i.toNat]? = some l[i.toNat] := by
        rw [getElem?_pos (ByteArray.mk l.toArray) i.toNat hl]
        rfl
      rw [if_pos h0, if_pos ⟨h0, h1⟩, e]
      simp [btx, hl2]
    · have hl : ¬ i.toNat < (ByteArray.mk l.toArray).size := by rw [tx_size]; omega
      have e : (ByteArray.mk l.toArray)[i.toNat]? = none := getElem?_neg (ByteArray.mk l.toArray) i.toNat hl
      rw [if_pos h0, if_neg (fun h => h1 h.2), e]
  · simp [h0]

@[simp] theorem aLen_tx {l : List UInt8} : aLen (.v (.string (ByteArray.mk l.toArray))) = some (.v (.int .i64 l.length)) := by simp [aLen]
@[simp 1100] theorem aBin_add_tx {a b : List UInt8} : aBin .add 1 (.v (.string (ByteArray.mk a.toArray))) (.v (.string (ByteArray.mk b.toArray))) = if a.length + b.length ≤ 140737488355328 then some (.v (.string (ByteArray.mk (a ++ b).toArray))) else none := by
  simp only [aBin, aBinS, tx_size, if_true]
  split <;> simp
@[simp 1100] theorem aBin_eql_tx {a b : List UInt8} : aBin .eql 1 (.v (.string (ByteArray.mk a.toArray))) (.v (.string (ByteArray.mk b.toArray))) = some (.v (.bool (decide (a = b)))) := by
  have e : (a == b) = decide (a = b) := by
    by_cases h : a = b <;> simp [h]
  simp only [aBin, aBinS, tx_toList, if_true, e]
  rfl
@[simp 1100] theorem aBin_neq_tx {a b : List UInt8} : aBin .neq 1 (.v (.string (ByteArray.mk a.toArray))) (.v (.string (ByteArray.mk b.toArray))) = some (.v (.bool (!decide (a = b)))) := by
  have e : (a == b) = decide (a = b) := by
    by_cases h : a = b <;> simp [h]
  simp only [aBin, aBinS, tx_toList, if_true, e]
  rfl

@[simp] theorem aBinS_add_tx {a b : List UInt8} : aBinS .add (ByteArray.mk a.toArray) (ByteArray.mk b.toArray) = if a.length + b.length ≤ 140737488355328 then some (.string (ByteArray.mk (a ++ b).toArray)) else none := by
  simp only [aBinS, tx_size]
  split <;> simp
@[simp] theorem aBinS_eql_tx {a b : List UInt8} : aBinS .eql (ByteArray.mk a.toArray) (ByteArray.mk b.toArray) = some (.bool (decide (a = b))) := by
  have e : (a == b) = decide (a = b) := by
    by_cases h : a = b <;> simp [h]
  simp only [aBinS, tx_toList, e]
@[simp] theorem aBinS_neq_tx {a b : List UInt8} : aBinS .neq (ByteArray.mk a.toArray) (ByteArray.mk b.toArray) = some (.bool (!decide (a = b))) := by
  have e : (a == b) = decide (a = b) := by
    by_cases h : a = b <;> simp [h]
  simp only [aBinS, tx_toList, e]

@[simp] theorem u8L_u8s : ∀ xs : List Int, u8L (u8s xs) = some xs
  | [] => rfl
  | x :: xs => by show (u8L (u8s xs)).map (x :: ·) = _; rw [u8L_u8s xs]; rfl

/-- Texts as elements of a row. -/
def txs (ls : List (List UInt8)) : List AV := ls.map fun l => .v (tx l)
@[simp] theorem txs_length (ls : List (List UInt8)) : (txs ls).length = ls.length := by simp [txs]
@[simp] theorem txs_nil : txs [] = [] := rfl
@[simp] theorem txs_eq_nil (ls : List (List UInt8)) : (txs ls = []) = (ls = []) := by cases ls <;> simp [txs]
/-- The text at an index. -/
def att (ls : List (List UInt8)) (i : Int) : List UInt8 := ls.getD i.toNat []
theorem txs_get {ls : List (List UInt8)} {i : Int} (h1 : i.toNat < ls.length) : (txs ls)[i.toNat]? = some (.v (tx (att ls i))) := by simp [txs, att, h1]
@[simp] theorem txs_getElem {ls : List (List UInt8)} {i : Nat} (h : i < (txs ls).length) : (txs ls)[i]'h = .v (tx (ls[i]'(by simpa using h))) := by simp [txs]
theorem iadr_txs {c : Nat} {k : IntKind} {ls : List (List UInt8)} {i : Int} (h0 : 0 ≤ i) (h1 : i < ls.length) : aiadr 1 (.sl c 1 (txs ls)) (.v (.int k i)) = some (.vp c [.v (tx (att ls i))] 0) := by
  simp [aiadr, h0, txs_get (ls := ls) (i := i) (by omega)]
@[simp] theorem iadr_txs_ite {c : Nat} {k : IntKind} {ls : List (List UInt8)} {i : Int} : aiadr 1 (.sl c 1 (txs ls)) (.v (.int k i)) = if 0 ≤ i ∧ i < ls.length then some (.vp c [.v (tx (att ls i))] 0) else none := by
  by_cases h : 0 ≤ i ∧ i < ls.length
  · rw [if_pos h, iadr_txs h.1 h.2]
  · rw [if_neg h]
    by_cases h0 : 0 ≤ i
    · have : ¬ i.toNat < ls.length := by omega
      simp [aiadr, h0, txs, this]
    · simp [aiadr, h0]
@[simp] theorem vwL_txs (c : Nat) : ∀ ls : List (List UInt8), vwL c (txs ls) = txs ls
  | [] => rfl
  | x :: xs => by show vw c _ :: vwL c (txs xs) = _ :: txs xs; rw [vwL_txs c xs]; rfl
theorem take_txs (n : Nat) (ls : List (List UInt8)) : (txs ls).take n = txs (ls.take n) := by simp [txs]
@[simp] theorem take_txs_all (ls : List (List UInt8)) : (txs ls).take ls.length = txs ls := by rw [take_txs, List.take_length]
@[simp] theorem flatL_txs : ∀ ls : List (List UInt8), flatL (txs ls) = true
  | [] => rfl
  | x :: xs => by show (flatE1 (.v (tx x)) && flatL (txs xs)) = true; rw [flatL_txs xs]; rfl
@[simp] theorem okL_txs : ∀ ls : List (List UInt8), okL (txs ls) = true
  | [] => rfl
  | x :: xs => by show (okE (.v (tx x)) && okL (txs xs)) = true; rw [okL_txs xs]; rfl
theorem flatE_txs : ∀ ls : List (List UInt8), flatE (txs ls) = txs ls
  | [] => rfl
  | x :: xs => by show cellsE _ ++ flatE (txs xs) = _ :: txs xs; rw [flatE_txs xs]; rfl
theorem RL_txs (C : Ctx) : ∀ ls : List (List UInt8), RL C (txs ls) [] (ls.map tx)
  | [] => by show RL C [] [] []; rw [RL]; exact ⟨rfl, rfl⟩
  | x :: xs => by
    show RL C (.v (tx x) :: txs xs) [] (tx x :: xs.map tx)
    rw [RL]; exact ⟨[], [], _, _, rfl, rfl, by rw [R]; exact ⟨rfl, rfl⟩, RL_txs C xs⟩
theorem sized_txs (ls : List (List UInt8)) : Sized 1 (txs ls) := by
  intro e he
  obtain ⟨n, _, rfl⟩ := List.mem_map.1 he
  rfl

end Go.Proofs.Dev

namespace Go.Proofs.Dev
open Go.ChangeShapes Go.WideShapes Go.ChangeAt Go.RowKit

section
variable {H : Type} {enc : TypeId × Value → H} {P : Program} {W : World}

theorem laid_at : ∀ {l : List (String × DataW Unit)} {ps : List MemPlace}, DataW.LaidVars P W l ps → ∀ {n : String} {d : DataW Unit}, (n, d) ∈ l →
    ∃ g t cs fuel p, P.globalNamed n = some g ∧ (P.globals[g]?).map (·.type) = some t ∧ W.var? P n = some cs ∧ DataW.trod (fun _ => ()) P W 0 (fun _ => true) false fuel t cs.toList = some (d, p)
  | [], _, _, _, _, hm => by cases hm
  | (n', d') :: r, ps, h, n, d, hm => by
    obtain ⟨g, t, cs, fuel, p, q, h1, h2, h3, h4, h5, _⟩ := h
    rcases List.mem_cons.1 hm with e | hm
    · cases e
      exact ⟨g, t, cs, fuel, p, h1, h2, h3, h4⟩
    · exact laid_at h5 hm

/-- A package variable that holds a list of texts. -/
theorem words_view {n : String} {t e : TypeId} {g fuel : Nat} {cs : Array Value} {p : List MemPlace} {ls : List (List UInt8)} (hg : P.globalNamed n = some g) (ht : P.underlying t = some (.slice e)) (he : P.underlying e = some .string) (hc : P.cellsOf e = 1) (hv : W.var? P n = some cs)
    (htr : DataW.trod (fun _ => ()) P W 0 (fun _ => true) false fuel t cs.toList = some (.slice (ls.map fun l => .lit (.string l)) [], p)) :
    R (gCtx W [] fun _ => False) (.vp 0 [.sl 0 1 (txs ls)] 0) [] (.pointer (some ⟨g, 0, none⟩)) := by
  rcases open_strings ht he hc htr with ⟨_, hx⟩ | ⟨a, len, cap, ss, hcs, _, hl, _, hss, hx, hcell, _⟩
  · cases hx
  simp only [if_true] at hss
  simp only [Prod.mk.injEq, DataW.slice.injEq] at hx
  obtain ⟨⟨hx1, hx2⟩, _⟩ := hx
  have hlen : len = cap := by
    have h0 : (ss.drop len).length = 0 := by
      have := congrArg List.length hx2
      simp [strs] at this
      simp; omega
    simp at h0
    omega
  subst hlen
  rw [← hss, List.take_length] at hx1
  have hls : ls = ss.map fun s => s.data.toList := by
    have h2 : (ls.map fun l => (DataW.lit (.string l) : DataW Unit)) = ss.map fun s => DataW.lit (.string s.data.toList) := hx1
    have h3 := congrArg (List.map fun d : DataW Unit => match d with | .lit (.string l) => l | _ => []) h2
    simpa [List.map_map, Function.comp_def] using h3
  have h0 : W.cell? ⟨g, 0, none⟩ = some (.slice (some a) len len) := by
    rw [World.var?_cell hg hv 0]
    have : cs.toList[0]? = some (.slice (some a) len len) := by rw [hcs]; rfl
    simpa using this
  rw [R]
  refine ⟨rfl, g, 0, [.slice (some a) len len], rfl, block_lt_of_cell h0, by simp [gCtx], ?_, ?_⟩
  · intro j u hj
    match j, hj with
    | 0, hj => simp only [List.getElem?_cons_zero, Option.some.injEq] at hj; subst hj; exact h0
    | j + 1, hj => simp at hj
  rw [RL]
  refine ⟨[], [], _, _, rfl, rfl, ?_, by rw [RL]; exact ⟨rfl, rfl⟩⟩
  rw [R]
  have hll : (txs ls).length = len := by rw [txs_length, hls]; simp [hss]
  refine ⟨rfl, some a, len, by rw [hll], by rw [hll]; exact Nat.le_refl _, ?_⟩
  by_cases hz : len = 0
  · left; exact List.eq_nil_of_length_eq_zero (by omega)
  right
  have hc0 := hcell 0 (by omega)
  have ha0 : a.add 0 = a := by cases a; rfl
  rw [ha0] at hc0
  have hsp := cell_spot hc0
  refine ⟨a.block, a.off, ls.map tx, by rw [← hsp], block_lt_of_cell hc0, by simp [gCtx, Ctx.at], ?_, sized_txs _, by rw [flatE_txs]; exact RL_txs _ _⟩
  intro j u hj
  rw [hls] at hj
  simp only [List.map_map, List.getElem?_map, Option.map_eq_some_iff] at hj
  obtain ⟨s, hs, rfl⟩ := hj
  have hj' : j < ss.length := (List.getElem?_eq_some_iff.1 hs).1
  have := hcell j hj'
  rw [hsp, addr_add] at this
  show W.cell? ⟨a.block, a.off + j, none⟩ = _
  rw [this, List.getD, hs]
  show some (Value.string s) = some (tx s.data.toList)
  rw [show tx s.data.toList = Value.string ⟨s.data.toList.toArray⟩ from rfl, Go.Lib.mk_data]

theorem iface_of_trod {H : Type} {enc : TypeId × Value → H} {t : TypeId} {ms : Array (String × TypeId)} {fuel base : Nat} {spare : Nat → Bool} {held : Bool} {cs : List Value} {x : DataW H × List MemPlace} (ht : P.underlying t = some (.interface ms)) (h : DataW.trod enc P W base spare held fuel t cs = some x) :
    ∃ v, cs = [v] ∧ errP v := by
  cases fuel with
  | zero => simp [DataW.trod] at h
  | succ n =>
    unfold DataW.trod at h
    rw [ht] at h
    split at h <;> simp_all [errP]

/-- A package variable of an interface type. -/
theorem err_cell {l : List (String × DataW Unit)} {ps : List MemPlace} {n : String} {d : DataW Unit} {g : Nat} {t : TypeId} {ms : Array (String × TypeId)} (h : DataW.LaidVars P W l ps) (hm : (n, d) ∈ l) (hg : P.globalNamed n = some g) (ht : (P.globals[g]?).map (·.type) = some t) (hu : P.underlying t = some (.interface ms)) :
    ∃ u, W.cell? ⟨g, 0, none⟩ = some u ∧ errP u := by
  obtain ⟨g', t', cs, fuel, p, e1, e2, e3, e4⟩ := laid_at h hm
  rw [hg] at e1; cases e1
  rw [ht] at e2; cases e2
  obtain ⟨v, hcs, hv⟩ := iface_of_trod hu e4
  refine ⟨v, ?_, hv⟩
  rw [World.var?_cell hg e3 0]
  have : cs.toList[0]? = some v := by rw [hcs]; rfl
  simpa using this

/-- From contracts to a statement, the world's shape at hand. -/
theorem returns_shaped {a : Assume} {C : Checked} {os : Os} {f : FuncId} {fn : Func} {s : ChangeSpec} {conds : List PathCond} {apart fresh handsOn again : Bool} {X : World → Array Value → Prop}
    (hX : ∀ (w w' : World) (args : Array Value), w.heap = w'.heap → X w args → X w' args)
    (own : ownKnob C.prog.godebug = none) (started : os.Started) (noInit : C.prog.inits.idxOf? f = none) (hfn : C.prog.funcs[f]? = some fn)
    (witness : ∃ (w : World) (tape : Tape) (i : Input), w.os = os ∧ (w.forCall tape i).Shaped C.prog ∧ i.vars = [] ∧ Input.okWide C.prog (w.forCall tape i) .any w.heap.size f i ∧
      ((s.pre enc C.prog fn conds apart (w.forCall tape i).memory i.args ∧ X (w.forCall tape i).memory i.args) ∧ sizedMet enc C.prog fn (OpenSpec.ofChange s) apart (w.forCall tape i).memory i.args) ∧ a.holds C.prog (lone (Frame.enter C.prog f i.args .normal) [] (w.forCall tape i)))
    (contract : ∀ (W : World) (base : Nat) (args : Array Value) (ds gs : List (DataW H)) (before : List MemPlace),
      (∀ (j : Nat) t v, fn.params[j]? = some t → args[j]? = some v → Value.okWide C.prog W .any base t v) →
      DataW.Whole enc C.prog fn.params.toList s.vars apart W args.toList ds gs before →
      conds.all (PathCond.test C.prog ⟨fn.params.toList, ds, s.plain.varTypes C.prog, gs⟩) = true →
      (DataW.weightsEach C.prog (fn.params.toList ++ s.plain.varTypes C.prog) (ds ++ gs)).all (· ≤ reachBytes) = true → X W args → W.ShapedOpen C.prog →
      Calls C.prog f args W fun e W' => ∃ v, e = .returned v ∧ s.post enc C.prog fn apart fresh handsOn again W args v W') :
    ReturnsInHanded a C os f .any (fun w args => (s.pre enc C.prog fn conds apart w args ∧ X w args) ∧ sizedMet enc C.prog fn (OpenSpec.ofChange s) apart w args) (s.post enc C.prog fn apart fresh handsOn again) := by
  refine returnsInHanded_of_calls own started noInit witness ?_
  intro w tape i _ hsh _ hok hpre _
  obtain ⟨_, _, _, fn', hfn', _, _, _, _, hval⟩ := hok
  have e : fn' = fn := Option.some.inj (hfn'.symm.trans hfn)
  subst e
  obtain ⟨⟨⟨ds, gs, before, hw, hc⟩, hx⟩, hz⟩ := hpre
  have hw' := DataW.Whole.of_heap (w' := w.forCall tape i) (by rfl) hw
  refine (contract (w.forCall tape i) w.heap.size i.args ds gs before hval hw' hc (hz.weights hw) (hX _ _ _ (by rfl) hx) hsh).mono fun e W' ⟨v, he, hp⟩ => ?_
  subst he
  exact ChangeSpec.post_blind hp

/-- The end of a law whose row lists a package variable that holds a list. -/
theorem law_postV {f : FuncId} {fn : Func} {s : ChangeSpec} {args : Array Value} {ds gs : List (DataW H)} {p : List MemPlace} {bs ups : List AV} {tb tv e : TypeId} {nv : String} {g : Nat}
    (hgb : GB W [] fun _ => False) (hs : SoundAt P f bs (.v (.bool true)) ups) (hr : RL (cin W [] fun _ => False) bs [] args.toList) (hl : laidOutB P = true) (hrd : ∀ t ∈ fn.params.toList, P.readableRec t = true ∧ t < P.types.size)
    (hW : DataW.Whole enc P fn.params.toList s.vars false W args.toList ds gs p) (hv0 : s.vars = [nv]) (hspec : ∀ g1, gs = [g1] → s.fn H (ds ++ [g1]) = { results := [.lit (.bool true)], args := ds, vars := [g1] })
    (hrt : fn.resultTypes = #[tb]) (htb : P.underlying tb = some .bool) (hg : P.globalNamed nv = some g) (hgt : (P.globals[g]?).map (·.type) = some tv) (hsl : P.underlying tv = some (.slice e)) (hrv : P.readableRec tv = true ∧ tv < P.types.size) :
    Calls P f args W fun e W' => ∃ v, e = .returned v ∧ s.post enc P fn false true false false W args v W' := by
  have hc := hs W (fun _ => False) args.toList [] hr (by simp) (by simp) ⟨by simp, hgb⟩
  refine hc.mono ?_
  rintro e W' ⟨v, S', rfl, hrl, _, _, hk⟩
  rw [RL] at hrl
  obtain ⟨S1, S2, u, us', _, huv, h1, _⟩ := hrl
  cases huv
  rw [R] at h1
  obtain ⟨_, rfl⟩ := h1
  have hb := kept_below hk
  have hlt : ∀ x ∈ p, x.block < W.heap.size := fun x hx => hW.lt x hx
  have hW' := hW
  obtain ⟨pA, pV, hA, hV, hp, _, _⟩ := hW
  rw [hv0] at hV
  obtain ⟨g', t', cs, fuel, d, q, rfl, h2, h3, h4, h5, h6⟩ := trodVars_one hV
  rw [hg] at h2; cases h2
  rw [hgt] at h3; cases h3
  obtain ⟨v, hcs, hcl⟩ : ∃ v : Value, cs.toList = [v] ∧ v.cells.toList = [v] := by
    rcases Go.Deep.open_slice hsl h5 with ⟨hcs, _⟩ | ⟨a, len, cap, m, n, D, Pl, hcs, _⟩
    · exact ⟨_, hcs, rfl⟩
    · exact ⟨_, hcs, rfl⟩
  have ht0 : DataW.Trod enc P W 0 (fun _ => true) true tv v d q := ⟨fuel, by rw [hcl, ← hcs]; exact h5⟩
  have hqlt : ∀ x ∈ q, x.block < W.heap.size := fun x hx => hlt x (by rw [hp, h6]; simp [hx])
  obtain ⟨fuel', ht1⟩ := Below.trod hl hrv.1 hrv.2 ht0 hb hqlt
  rw [hcl, ← hcs] at ht1
  have hgl : g < W.heap.size := by
    have h0 := World.var?_cell hg h4 0
    have : cs.toList[0]? = some v := by rw [hcs]; rfl
    rw [show cs[0]? = some v by simpa using this] at h0
    exact block_lt_of_cell h0
  have hvar : W'.var? P nv = some cs := by
    simp only [World.var?, hg, Option.bind_some] at h4 ⊢
    rw [hb.block g hgl]; exact h4
  refine ⟨_, rfl, ds, [d], p, [], pA, pV, hW', ?_, ?_, ?_, World.keptBut_mono (fun q hq => ⟨hq, ?_⟩) (hb.frame (· ∈ p)), fun h => by cases h⟩
  · rw [hspec d rfl, hrt]
    exact trodAll_mk1 (shut_bool htb true)
  · rw [hspec d rfl]
    exact trodAll_below hl hb _ _ _ _ hrd hA (fun x hx => hlt x (by rw [hp]; simp [hx]))
  · rw [hspec d rfl, hv0, h6]
    exact trodVars_mk1 hg hgt hvar ht1
  · rw [hp, List.mem_append] at hq
    exact .inr hq

end
end Go.Proofs.Dev

namespace Go.Proofs.Dev

def manyOf : List Bool → Nat
  | [] => 0
  | b :: bs => (if b then 1 else 0) + manyOf bs

theorem manyOf_append : ∀ (a b : List Bool), manyOf (a ++ b) = manyOf a + manyOf b
  | [], b => by simp [manyOf]
  | x :: a, b => by simp [manyOf, manyOf_append a b]; omega

theorem manyOf_le : ∀ a : List Bool, manyOf a ≤ a.length
  | [] => by simp [manyOf]
  | x :: a => by have := manyOf_le a; cases x <;> simp [manyOf] <;> omega

theorem manyOf_take (bs : List Bool) (i : Nat) (h : i < bs.length) : manyOf (bs.take (i + 1)) = manyOf (bs.take i) + if atb bs i then 1 else 0 := by
  rw [List.take_succ_eq_append_getElem h, manyOf_append]; simp [manyOf, atb, h]

/-- A valid region. -/
def regB (W T : Int) (cs : List Bool) : Bool := decide (1 ≤ W ∧ W ≤ 6 ∧ 1 ≤ T ∧ T ≤ 6 ∧ (cs.length : Int) = W * T ∧ manyOf cs ≤ 24)

def stepI (W T cell way : Int) : Int :=
  if way = 1 ∧ cell % W < W - 1 then cell + 1 else
  if way = 2 ∧ cell / W < T - 1 then cell + W else
  if way = 3 ∧ 0 < cell % W then cell - 1 else
  if way = 4 ∧ 0 < cell / W then cell - W else -1

def backI (way : Int) : Int := (way + 1) % 4 + 1

def layAt (W T : Int) (cs : List Bool) (laid : List Int) (k : Int) : Bool :=
  decide (ati laid k = 0 ∨ (1 ≤ ati laid k ∧ ati laid k ≤ 4 ∧ atb cs k = true ∧ 0 ≤ stepI W T k (ati laid k) ∧ atb cs (stepI W T k (ati laid k)) = true ∧ ati laid (stepI W T k (ati laid k)) = backI (ati laid k)))

/-- Dominoes on a valid region. -/
def laysB (W T : Int) (cs : List Bool) (laid : List Int) : Bool := decide (laid.length = cs.length) && allB laid.length (fun k => layAt W T cs laid k)

def digAt (cs : List Bool) (ds : List Int) (k : Int) : Bool := if atb cs k then decide (0 ≤ ati ds k ∧ ati ds k ≤ 6) else decide (ati ds k = -1)
def digsB (cs : List Bool) (ds : List Int) : Bool := decide (ds.length = cs.length) && allB ds.length (fun k => digAt cs ds k)

def pairI (a b : Int) : Int := 7 * min a b + max a b
def pairsTo (W T : Int) (ds laid : List Int) (n : Nat) : List Int :=
  (List.range n).flatMap fun k : Nat => if ati laid k = 1 ∨ ati laid k = 2 then [pairI (ati ds k) (ati ds (stepI W T k (ati laid k)))] else []
def pairsI (W T : Int) (ds laid : List Int) : List Int := pairsTo W T ds laid laid.length

theorem pairsTo_succ (W T : Int) (ds laid : List Int) (n : Nat) : pairsTo W T ds laid (n + 1) = pairsTo W T ds laid n ++ if ati laid n = 1 ∨ ati laid n = 2 then [pairI (ati ds n) (ati ds (stepI W T n (ati laid n)))] else [] := by
  simp [pairsTo, List.range_succ]
theorem pairsTo_length (W T : Int) (ds laid : List Int) : ∀ n, (pairsTo W T ds laid n).length ≤ n
  | 0 => by simp [pairsTo]
  | n + 1 => by
    have := pairsTo_length W T ds laid n
    rw [pairsTo_succ]; split <;> simp <;> omega

theorem regB_W {W T : Int} {cs : List Bool} (h : regB W T cs = true) : 1 ≤ W ∧ W ≤ 6 ∧ 1 ≤ T ∧ T ≤ 6 ∧ (cs.length : Int) = W * T ∧ manyOf cs ≤ 24 := by simpa [regB] using h

theorem regB_len {W T : Int} {cs : List Bool} (h : regB W T cs = true) : cs.length ≤ 36 := by
  obtain ⟨h1, h2, h3, h4, h5, _⟩ := regB_W h
  have : W * T ≤ 6 * 6 := Int.mul_le_mul h2 h4 (by omega) (by omega)
  omega

/-- A column and a row of a cell. -/
theorem cell_xy {W T : Int} {k : Int} (hW : 1 ≤ W) (h0 : 0 ≤ k) (h1 : k < W * T) : 0 ≤ k % W ∧ k % W < W ∧ 0 ≤ k / W ∧ k / W < T ∧ k = k / W * W + k % W := by
  refine ⟨Int.emod_nonneg _ (by omega), Int.emod_lt_of_pos _ (by omega), Int.ediv_nonneg h0 (by omega), ?_, ?_⟩
  · exact Int.ediv_lt_of_lt_mul (by omega) (by rw [Int.mul_comm]; exact h1)
  · have := Int.mul_ediv_add_emod k W; rw [Int.mul_comm] at this; omega

theorem row_lt {W T x y : Int} (hW : 1 ≤ W) (hx : 0 ≤ x) (hx2 : x < W) (hy : 0 ≤ y) (hy2 : y < T) : 0 ≤ y * W + x ∧ y * W + x < W * T := by
  have h1 : 0 ≤ y * W := Int.mul_nonneg hy (by omega)
  have h2 : (y + 1) * W ≤ T * W := Int.mul_le_mul_of_nonneg_right (by omega) (by omega)
  rw [Int.add_mul, Int.mul_comm T W] at h2
  omega

theorem stepI_range {W T k way : Int} (hW : 1 ≤ W) (h0 : 0 ≤ k) (h1 : k < W * T) : stepI W T k way = -1 ∨ (0 ≤ stepI W T k way ∧ stepI W T k way < W * T ∧ 1 ≤ way ∧ way ≤ 4) := by
  obtain ⟨a1, a2, a3, a4, a5⟩ := cell_xy hW h0 h1
  unfold stepI
  split
  · rename_i h
    right
    have := row_lt (T := T) hW (x := k % W + 1) (y := k / W) (by omega) (by omega) a3 a4
    omega
  split
  · rename_i h
    right
    have := row_lt (T := T) hW (x := k % W) (y := k / W + 1) (by omega) (by omega) (by omega) (by omega)
    rw [Int.add_mul] at this
    omega
  split
  · rename_i h
    right
    have := row_lt (T := T) hW (x := k % W - 1) (y := k / W) (by omega) (by omega) a3 a4
    omega
  split
  · rename_i h
    right
    have := row_lt (T := T) hW (x := k % W) (y := k / W - 1) (by omega) (by omega) (by omega) (by omega)
    rw [Int.sub_mul] at this
    omega
  · left; rfl

end Go.Proofs.Dev

namespace Go.Proofs.Dev

def onceB (xs : List Int) : Bool := decide xs.Nodup

theorem once_take_succ (xs : List Int) (i : Nat) (h : i < xs.length) : (xs.take (i + 1)).Nodup ↔ (xs.take i).Nodup ∧ ¬ ati xs i ∈ xs.take i := by
  have e : ati xs i = xs[i] := by simp [ati, h]
  rw [List.take_succ_eq_append_getElem h, e, List.nodup_append]
  simp
  intro _
  constructor
  · intro h1 h2; exact h1 _ h2 rfl
  · intro h1 a h2 h3; subst h3; exact h1 h2

end Go.Proofs.Dev

namespace Go.Proofs.Dev
open Go.Sort

end Go.Proofs.Dev
