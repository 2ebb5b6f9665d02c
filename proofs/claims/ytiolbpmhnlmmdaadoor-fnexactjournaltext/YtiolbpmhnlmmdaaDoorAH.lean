/- Contracts of the functions of the program over slots and rows, each proved against the program itself; no condition beyond those that each theorem names. -/
import Derived.Test.YtiolbpmhnlmmdaaDoorAG
import Derived.ProofKit
import Derived.Lib.SmallJoins
import Derived.Deep.Grids
import Derived.Lib.Strings
import Derived.SliceStrings
import Derived.ChangeVars
import Derived.LaidMore
import Derived.Lay
import Derived.MakeChecks
import Derived.Shelf.Vars

set_option linter.unusedSimpArgs false
set_option linter.unusedVariables false

namespace Go.Proofs.Dev

/-- Numbers, truths, as elements of a row. -/
def ints (xs : List Int) : List AV := xs.map fun n => .v (.int .i64 n)
def bools (bs : List Bool) : List AV := bs.map fun b => .v (.bool b)

/-- What stands at an index; 0, false behind the end. -/
def ati (xs : List Int) (i : Int) : Int := xs.getD i.toNat 0
def atb (bs : List Bool) (i : Int) : Bool := bs.getD i.toNat false

@[simp] theorem ints_length (xs : List Int) : (ints xs).length = xs.length := by simp [ints]
@[simp] theorem bools_length (xs : List Bool) : (bools xs).length = xs.length := by simp [bools]
@[simp] theorem ints_nil : ints [] = [] := rfl
@[simp] theorem bools_nil : bools [] = [] := rfl
@[simp] theorem ints_eq_nil (xs : List Int) : (ints xs = []) = (xs = []) := by cases xs <;> simp [ints]
@[simp] theorem bools_eq_nil (xs : List Bool) : (bools xs = []) = (xs = []) := by cases xs <;> simp [bools]

theorem ints_get {xs : List Int} {i : Int} (h1 : i.toNat < xs.length) : (ints xs)[i.toNat]? = some (.v (.int .i64 (ati xs i))) := by simp [ints, ati, h1]
theorem bools_get {xs : List Bool} {i : Int} (h1 : i.toNat < xs.length) : (bools xs)[i.toNat]? = some (.v (.bool (atb xs i))) := by simp [bools, atb, h1]

theorem iadr_ints {c : Nat} {k : IntKind} {xs : List Int} {i : Int} (h0 : 0 ≤ i) (h1 : i < xs.length) : aiadr 1 (.sl c 1 (ints xs)) (.v (.int k i)) = some (.vp c [.v (.int .i64 (ati xs i))] 0) := by
  simp [aiadr, h0, ints_get (xs := xs) (i := i) (by omega)]
theorem iadr_bools {c : Nat} {k : IntKind} {xs : List Bool} {i : Int} (h0 : 0 ≤ i) (h1 : i < xs.length) : aiadr 1 (.sl c 1 (bools xs)) (.v (.int k i)) = some (.vp c [.v (.bool (atb xs i))] 0) := by
  simp [aiadr, h0, bools_get (xs := xs) (i := i) (by omega)]
@[simp] theorem iadr_ints_ite {c : Nat} {k : IntKind} {xs : List Int} {i : Int} : aiadr 1 (.sl c 1 (ints xs)) (.v (.int k i)) = if 0 ≤ i ∧ i < xs.length then some (.vp c [.v (.int .i64 (ati xs i))] 0) else none := by
  by_cases h : 0 ≤ i ∧ i < xs.length
  · rw [if_pos h, iadr_ints h.1 h.2]
  · rw [if_neg h]
    by_cases h0 : 0 ≤ i
    · have : ¬ i.toNat < xs.length := by omega
      simp [aiadr, h0, ints, this]
    · simp [aiadr, h0]
@[simp] theorem iadr_bools_ite {c : Nat} {k : IntKind} {xs : List Bool} {i : Int} : aiadr 1 (.sl c 1 (bools xs)) (.v (.int k i)) = if 0 ≤ i ∧ i < xs.length then some (.vp c [.v (.bool (atb xs i))] 0) else none := by
  by_cases h : 0 ≤ i ∧ i < xs.length
  · rw [if_pos h, iadr_bools h.1 h.2]
  · rw [if_neg h]
    by_cases h0 : 0 ≤ i
    · have : ¬ i.toNat < xs.length := by omega
      simp [aiadr, h0, bools, this]
    · simp [aiadr, h0]
@[simp] theorem iadr_ls_ite {sz id off n : Nat} {k : IntKind} {i : Int} : aiadr sz (.ls sz id off n) (.v (.int k i)) = if 0 ≤ i ∧ i < n then some (.lp sz id (off + i.toNat) 0) else none := by
  simp [aiadr]

@[simp] theorem vwL_ints (c : Nat) : ∀ xs : List Int, vwL c (ints xs) = ints xs
  | [] => rfl
  | x :: xs => by show vw c _ :: vwL c (ints xs) = _ :: ints xs; rw [vwL_ints c xs]; rfl
@[simp] theorem vwL_bools (c : Nat) : ∀ xs : List Bool, vwL c (bools xs) = bools xs
  | [] => rfl
  | x :: xs => by show vw c _ :: vwL c (bools xs) = _ :: bools xs; rw [vwL_bools c xs]; rfl
theorem take_ints (n : Nat) (xs : List Int) : (ints xs).take n = ints (xs.take n) := by simp [ints]
theorem take_bools (n : Nat) (xs : List Bool) : (bools xs).take n = bools (xs.take n) := by simp [bools]
@[simp] theorem take_ints_all (xs : List Int) : (ints xs).take xs.length = ints xs := by rw [take_ints, List.take_length]
@[simp] theorem take_bools_all (xs : List Bool) : (bools xs).take xs.length = bools xs := by rw [take_bools, List.take_length]
@[simp] theorem flatL_ints : ∀ xs : List Int, flatL (ints xs) = true
  | [] => rfl
  | x :: xs => by show (flatE1 (.v (.int .i64 x)) && flatL (ints xs)) = true; rw [flatL_ints xs]; rfl
@[simp] theorem flatL_bools : ∀ xs : List Bool, flatL (bools xs) = true
  | [] => rfl
  | x :: xs => by show (flatE1 (.v (.bool x)) && flatL (bools xs)) = true; rw [flatL_bools xs]; rfl
@[simp] theorem okL_ints : ∀ xs : List Int, okL (ints xs) = true
  | [] => rfl
  | x :: xs => by show (okE (.v (.int .i64 x)) && okL (ints xs)) = true; rw [okL_ints xs]; rfl
@[simp] theorem okL_bools : ∀ xs : List Bool, okL (bools xs) = true
  | [] => rfl
  | x :: xs => by show (okE (.v (.bool x)) && okL (bools xs)) = true; rw [okL_bools xs]; rfl

attribute [simp] abox amk aslice bnds optI okE allOk okCell ast afadr setL aapp baseOf srcOf killAll aextr aConv aMin1 zipP aparts absl sizedB purgeH purgeR okL flatL flatE1 flatV allV rv rvL ownL treesL backL rd rdL rd0 rd0L isBot vw vwL padN thawL fitK Value.oneCell' asslice asidx aidx

theorem call_on {P : Program} {K : ES → Heap → Prop} {E : ES} {H : Heap} {f : Nat} {ms : List Bool} {avs : List AV} {dst : Option Nat} {ts : List AV} {r : AV} {ups : List AV} (hs : SoundAt P f ts r ups)
    (h : ∃ ks, ownL H avs ms = some ks ∧ ks.Nodup ∧ treesL H (killAll ks H) ks.isEmpty avs ms = some ts ∧ ∃ p, backL avs ms ups (thaw r H.length).2.2 = some p ∧
      K (putE (if ks.isEmpty then E else purgeE E) dst (thaw r H.length).1) (setRows ((thaw r H.length).2.1 ++ p.1) (padN (p.2 - H.length) (killAll ks (if ks.isEmpty then H else purgeH H))))) : callNode P f ms avs E H dst K := by
  obtain ⟨ks, h1, h2, h3, p, h4, h5⟩ := h
  exact ⟨ks, h1, h2, ts, h3, _, hs.set, by rintro _ _ ⟨rfl, rfl⟩; exact ⟨p, h4, h5⟩⟩

end Go.Proofs.Dev

namespace Go.Proofs.Dev

theorem RL_bots {C : Ctx} : ∀ (n : Nat) {S : List Nat} {us : List Value}, RL C (List.replicate n .bot) S us → S = [] ∧ ∀ C', RL C' (List.replicate n .bot) [] us
  | 0, S, us, h => by
    rw [List.replicate_zero, RL] at h
    exact ⟨h.1, fun C' => by rw [List.replicate_zero, RL]; exact ⟨rfl, h.2⟩⟩
  | n + 1, S, us, h => by
    rw [List.replicate_succ, RL] at h
    obtain ⟨S1, S2, u, us', rfl, rfl, h1, h2⟩ := h
    rw [R] at h1
    obtain ⟨h3, h4⟩ := RL_bots n h2
    refine ⟨by rw [h1, h3]; rfl, fun C' => ?_⟩
    rw [List.replicate_succ, RL]
    exact ⟨[], [], u, us', rfl, rfl, by rw [R], h4 C'⟩

theorem SoundAt.frozen {P : Program} {f n : Nat} {as : List AV} {r : AV} (hS : ∀ C S us, RL C as S us → S = []) (h : SoundAt P f as r (List.replicate n .bot)) : SoundAt P f as (vw 0 r) (List.replicate n .bot) := by
  intro w forb us S hr hnd hsz hforb
  have hS0 : S = [] := hS _ _ _ hr
  subst hS0
  refine Calls.mono (h w forb us [] hr hnd hsz hforb) ?_
  rintro e w' ⟨v, S', he, hv, hnd', hmem, hk⟩
  rw [RL] at hv
  obtain ⟨S1, S2, u, us', rfl, hu, h1, h2⟩ := hv
  cases hu
  obtain ⟨rfl, h4⟩ := RL_bots n h2
  refine ⟨v, [], he, ?_, List.nodup_nil, by simp, hk⟩
  rw [RL]
  refine ⟨[], [], v, us, rfl, rfl, ?_, h4 _⟩
  refine R.open (c := 0) (vw_ok (C' := cout w' [] forb) 0 r (cout w' (S1 ++ []) forb) (fun _ => rfl) rfl ?_ S1 v h1 ?_)
  · intro d b _ hb
    match d, hb with
    | 0, hb =>
      intro hx
      rcases hx with hx | hx
      · cases hx
      · exact hb (.inr hx)
    | d + 1, hb => exact absurd trivial hb
  · intro x hx hbad
    rcases hbad with hbad | hbad
    · cases hbad
    · rcases (hmem x (by simp [hx])).2 with h5 | h5
      · have := hforb.1 x hbad
        omega
      · cases h5

end Go.Proofs.Dev

namespace Go.Proofs.Dev

mutual
/-- Without views, places and rows. -/
def noV : AV → Bool
  | .bot => true
  | .v _ => true
  | .os _ es => noVL es
  | .op cs => noVL cs
  | .agg cs => noVL cs
  | .tup cs => noVL cs
  | .fn _ cs => noVL cs
  | _ => false
def noVL : List AV → Bool
  | [] => true
  | a :: as => noV a && noVL as
end

theorem noVL_append : ∀ (a b : List AV), noVL (a ++ b) = (noVL a && noVL b)
  | [], b => by simp [noVL]
  | x :: a, b => by simp [noVL, noVL_append a b, Bool.and_assoc]

theorem noV_cells (e : AV) (h : noV e = true) : noVL (cellsE e) = true := by
  cases e <;> simp_all [cellsE, noVL, noV]

theorem noVL_flat : ∀ (es : List AV), noVL es = true → noVL (flatE es) = true
  | [], _ => by simp [flatE, noVL]
  | e :: es, h => by
    simp only [noVL, Bool.and_eq_true] at h
    simp only [flatE, noVL_append, Bool.and_eq_true]
    exact ⟨noV_cells e h.1, noVL_flat es h.2⟩

mutual
theorem noV_ok {C C' : Ctx} (hw : C'.w = C.w) : ∀ (a : AV) (S : List Nat) (u : Value), noV a = true → R C a S u → R C' a S u
  | .bot, S, u, _, hr => by rw [R] at *; exact hr
  | .v x, S, u, _, hr => by rw [R] at *; exact hr
  | .os sz es, S, u, hn, hr => by
    rw [R] at *
    simp only [noV] at hn
    obtain ⟨a, cap, hu, hc, hr⟩ := hr
    refine ⟨a, cap, hu, hc, orR ?_ hr⟩
    rintro ⟨h0, b, p, us, S', rfl, ha, hb, hroom, hcells, hsz, hrl⟩
    exact ⟨h0, b, p, us, S', rfl, ha, by rw [hw]; exact hb, by rw [hw]; exact hroom, by rw [hw]; exact hcells, hsz, noVL_ok (C := C.at 0) (C' := C'.at 0) hw _ _ _ (noVL_flat es hn) hrl⟩
  | .op cs, S, u, hn, hr => by
    rw [R] at *
    simp only [noV] at hn
    obtain ⟨b, p, us, S', rfl, hu, hb, hroom, hcells, hrl⟩ := hr
    exact ⟨b, p, us, S', rfl, hu, by rw [hw]; exact hb, by rw [hw]; exact hroom, by rw [hw]; exact hcells, noVL_ok (C := C.at 0) (C' := C'.at 0) hw _ _ _ hn hrl⟩
  | .agg cs, S, u, hn, hr => by
    rw [R] at *
    simp only [noV] at hn
    obtain ⟨us, hu, hrl⟩ := hr
    exact ⟨us, hu, noVL_ok hw _ _ _ hn hrl⟩
  | .tup cs, S, u, hn, hr => by
    rw [R] at *
    simp only [noV] at hn
    obtain ⟨us, hu, hrl⟩ := hr
    exact ⟨us, hu, noVL_ok hw _ _ _ hn hrl⟩
  | .fn f cs, S, u, hn, hr => by
    rw [R] at *
    simp only [noV] at hn
    obtain ⟨us, hu, hrl⟩ := hr
    exact ⟨us, hu, noVL_ok hw _ _ _ hn hrl⟩
  | .sl .., S, u, hn, hr => by simp [noV] at hn
  | .vp .., S, u, hn, hr => by simp [noV] at hn
  | .ls .., S, u, hn, hr => by simp [noV] at hn
  | .lw .., S, u, hn, hr => by simp [noV] at hn
  | .lp .., S, u, hn, hr => by simp [noV] at hn
termination_by a => SizeOf.sizeOf a
decreasing_by all_goals (first | (have := sizeOf_flatE es; simp; omega) | (simp; done) | (simp; omega))
theorem noVL_ok {C C' : Ctx} (hw : C'.w = C.w) : ∀ (as : List AV) (S : List Nat) (us : List Value), noVL as = true → RL C as S us → RL C' as S us
  | [], S, us, _, hr => by rw [RL] at *; exact hr
  | a :: as, S, us, hn, hr => by
    rw [RL] at *
    simp only [noVL, Bool.and_eq_true] at hn
    obtain ⟨S1, S2, u, us', rfl, rfl, h1, h2⟩ := hr
    exact ⟨S1, S2, u, us', rfl, rfl, noV_ok hw _ _ _ hn.1 h1, noVL_ok hw _ _ _ hn.2 h2⟩
termination_by a => SizeOf.sizeOf a
decreasing_by all_goals (simp; omega)
end

mutual
/-- Nothing that is owned. -/
def noO : AV → Bool
  | .bot => true
  | .v _ => true
  | .sl .. => true
  | .vp .. => true
  | .agg cs => noOL cs
  | .tup cs => noOL cs
  | .fn _ cs => noOL cs
  | _ => false
def noOL : List AV → Bool
  | [] => true
  | a :: as => noO a && noOL as
end

mutual
theorem noO_ok {C : Ctx} : ∀ (a : AV) (S : List Nat) (u : Value), noO a = true → R C a S u → S = []
  | .bot, S, u, _, hr => by rw [R] at hr; exact hr
  | .v x, S, u, _, hr => by rw [R] at hr; exact hr.1
  | .sl .., S, u, _, hr => by rw [R] at hr; exact hr.1
  | .vp .., S, u, _, hr => by rw [R] at hr; exact hr.1
  | .agg cs, S, u, hn, hr => by
    rw [R] at hr
    obtain ⟨us, _, hrl⟩ := hr
    exact noOL_ok cs S us (by simpa [noO] using hn) hrl
  | .tup cs, S, u, hn, hr => by
    rw [R] at hr
    obtain ⟨us, _, hrl⟩ := hr
    exact noOL_ok cs S us (by simpa [noO] using hn) hrl
  | .fn f cs, S, u, hn, hr => by
    rw [R] at hr
    obtain ⟨us, _, hrl⟩ := hr
    exact noOL_ok cs S us (by simpa [noO] using hn) hrl
  | .os .., S, u, hn, hr => by simp [noO] at hn
  | .op .., S, u, hn, hr => by simp [noO] at hn
  | .ls .., S, u, hn, hr => by simp [noO] at hn
  | .lw .., S, u, hn, hr => by simp [noO] at hn
  | .lp .., S, u, hn, hr => by simp [noO] at hn
theorem noOL_ok {C : Ctx} : ∀ (as : List AV) (S : List Nat) (us : List Value), noOL as = true → RL C as S us → S = []
  | [], S, us, _, hr => by rw [RL] at hr; exact hr.1
  | a :: as, S, us, hn, hr => by
    rw [RL] at hr
    simp only [noOL, Bool.and_eq_true] at hn
    obtain ⟨S1, S2, u, us', rfl, rfl, h1, h2⟩ := hr
    rw [noO_ok a S1 u hn.1 h1, noOL_ok as S2 us' hn.2 h2]
    rfl
end

end Go.Proofs.Dev

namespace Go.Proofs.Dev
open Go.ChangeShapes Go.WideShapes Go.ChangeAt Go.RowKit

section
variable {H : Type} {enc : TypeId × Value → H} {P : Program} {W : World}

theorem cell_spot {w : World} {a : Addr} {v : Value} (h : w.cell? a = some v) : a = ⟨a.block, a.off, none⟩ := by
  obtain ⟨b, o, s⟩ := a
  cases s with
  | none => rfl
  | some s =>
    unfold World.cell? at h
    split at h <;> simp at h

theorem joinedFacts_of {P : Program} {f : FuncId} {fn : Func} {s : ChangeSpec} {c : OpenClaim} (h0 : (c.wf (OpenSpec.ofChange s)) = true) (h1 : (laidOutB P) = true) (h2 : (mapsRowed P) = true) (h3 : (fn.params.all (P.readableRec ·)) = true) (h4 : (namedTie P c.named s.vars) = true) (h5 : ((c.stops == [])) = true) (h6 : ((P.stops == [])) = true) (h7 : ((c.knobs == [])) = true) (h8 : ((P.stopKnobs == [])) = true) (h9 : ((c.inPlace == P.inPlace f)) = true) (h10 : ((c.unfollowed == P.unfollowed f)) = true) (h11 : ((c.recurses == P.recurses f)) = true) (h12 : ((c.named == P.varsNamed f)) = true) (h13 : ((c.maps == (fn.params.toList ++ s.plain.varTypes P).any (P.mapsRec ·))) = true) (h14 : ((c.ifaces == (fn.params.toList ++ s.plain.varTypes P).any (P.ifacesRec ·))) = true) (h15 : ((c.mapsOut == P.mapsAmong fn.resultTypes.toList)) = true) (h16 : ((c.loops == (fn.params.toList ++ s.plain.varTypes P).any (P.loopsFrom ·))) = true) (h17 : ((c.wideKeys == (fn.params.toList ++ s.plain.varTypes P ++ fn.resultTypes.toList).any (P.wideKeysFrom ·))) = true) (h18 : (s.vars.all (P.varReadable ·)) = true) (h19 : (fn.resultTypes.all (fun t => P.readableRec t && decide (t < P.types.size))) = true) (h20 : ((c.ifacesOut == fn.resultTypes.toList.any (P.ifacesRec ·))) = true) (h21 : ((c.loopsOut == fn.resultTypes.toList.any (P.loopsFrom ·))) = true) (h22 : ((c.plainKeys == P.plainKeys)) = true) (h23 : (c.shortTexts.isNone) = true) (h24 : (P.stopsHeard) = true) (h25 : (P.mayEnter) = true) (h26 : ((c.lifted == P.liftsFinal)) = true) (h27 : ((P.make == some c.make)) = true) (h28 : c.domain = [] ∧ c.kinds = []) (h29 : ((c.pinned == c.pinnedBy)) = true) (h30 : ((c.veiled == (fn.params.toList ++ s.plain.varTypes P ++ fn.resultTypes.toList).any (P.veiledRec ·))) = true) (h31 : (c.veiledFits P fn.params.toList (fn.params.toList ++ s.plain.varTypes P ++ fn.resultTypes.toList)) = true) : joinedFacts P f fn s c = true := by
  simp only [joinedFacts, Bool.and_eq_true]
  exact ⟨⟨⟨⟨⟨⟨⟨⟨⟨⟨⟨⟨⟨⟨⟨⟨⟨⟨⟨⟨⟨⟨⟨⟨⟨⟨⟨⟨⟨⟨⟨h0, h1⟩, h2⟩, h3⟩, h4⟩, h5⟩, h6⟩, h7⟩, h8⟩, h9⟩, h10⟩, h11⟩, h12⟩, h13⟩, h14⟩, h15⟩, h16⟩, h17⟩, h18⟩, h19⟩, h20⟩, h21⟩, h22⟩, h23⟩, h24⟩, h25⟩, h26⟩, h27⟩, by simp [h28]⟩, h29⟩, h30⟩, h31⟩

theorem kept_below {B : Nat} {w w' : World} (h : Kept B [] w w') : Below B w w' := ⟨h.os, h.tape, h.output, h.size, fun k hk => h.block k hk (by simp)⟩

theorem trodAll_below (hl : laidOutB P = true) {W' : World} (hb : Below W.heap.size W W') : ∀ (ts : List TypeId) (vs : List Value) (ds : List (DataW H)) (ps : List MemPlace), (∀ t ∈ ts, P.readableRec t = true ∧ t < P.types.size) →
    DataW.TrodAll enc P W 0 (fun _ => true) true ts vs ds ps → (∀ x ∈ ps, x.block < W.heap.size) → DataW.TrodAll enc P W' 0 (fun b => decide (b < W.heap.size)) true ts vs ds ps
  | [], [], [], ps, _, h, _ => h
  | t :: ts, v :: vs, d :: ds, ps, hr, h, hlt => by
    obtain ⟨p, q, h1, h2, rfl⟩ := h
    obtain ⟨r1, r2⟩ := hr t (by simp)
    exact ⟨p, q, Below.trod hl r1 r2 h1 hb (fun x hx => hlt x (by simp [hx])), trodAll_below hl hb ts vs ds q (fun t ht => hr t (by simp [ht])) h2 (fun x hx => hlt x (by simp [hx])), rfl⟩
  | [], _ :: _, _, _, _, h, _ => by cases h
  | [], [], _ :: _, _, _, h, _ => by cases h
  | _ :: _, [], _, _, _, h, _ => by cases h
  | _ :: _, _ :: _, [], _, _, h, _ => by cases h

end
end Go.Proofs.Dev

namespace Go.Proofs.Dev
open Go.ChangeShapes Go.WideShapes Go.ChangeAt Go.RowKit

def u8s (xs : List Int) : List AV := xs.map fun n => .v (.int .u8 n)
@[simp] theorem u8s_length (xs : List Int) : (u8s xs).length = xs.length := by simp [u8s]
@[simp] theorem u8s_nil : u8s [] = [] := rfl
@[simp] theorem u8s_eq_nil (xs : List Int) : (u8s xs = []) = (xs = []) := by cases xs <;> simp [u8s]
theorem u8s_get {xs : List Int} {i : Int} (h1 : i.toNat < xs.length) : (u8s xs)[i.toNat]? = some (.v (.int .u8 (ati xs i))) := by simp [u8s, ati, h1]
theorem iadr_u8s {c : Nat} {k : IntKind} {xs : List Int} {i : Int} (h0 : 0 ≤ i) (h1 : i < xs.length) : aiadr 1 (.sl c 1 (u8s xs)) (.v (.int k i)) = some (.vp c [.v (.int .u8 (ati xs i))] 0) := by
  simp [aiadr, h0, u8s_get (xs := xs) (i := i) (by omega)]
@[simp] theorem iadr_u8s_ite {c : Nat} {k : IntKind} {xs : List Int} {i : Int} : aiadr 1 (.sl c 1 (u8s xs)) (.v (.int k i)) = if 0 ≤ i ∧ i < xs.length then some (.vp c [.v (.int .u8 (ati xs i))] 0) else none := by
  by_cases h : 0 ≤ i ∧ i < xs.length
  · rw [if_pos h, iadr_u8s h.1 h.2]
  · rw [if_neg h]
    by_cases h0 : 0 ≤ i
    · have : ¬ i.toNat < xs.length := by omega
      simp [aiadr, h0, u8s, this]
    · simp [aiadr, h0]
@[simp] theorem vwL_u8s (c : Nat) : ∀ xs : List Int, vwL c (u8s xs) = u8s xs
  | [] => rfl
  | x :: xs => by show vw c _ :: vwL c (u8s xs) = _ :: u8s xs; rw [vwL_u8s c xs]; rfl
theorem take_u8s (n : Nat) (xs : List Int) : (u8s xs).take n = u8s (xs.take n) := by simp [u8s]
@[simp] theorem take_u8s_all (xs : List Int) : (u8s xs).take xs.length = u8s xs := by rw [take_u8s, List.take_length]
@[simp] theorem flatL_u8s : ∀ xs : List Int, flatL (u8s xs) = true
  | [] => rfl
  | x :: xs => by show (flatE1 (.v (.int .u8 x)) && flatL (u8s xs)) = true; rw [flatL_u8s xs]; rfl
@[simp] theorem okL_u8s : ∀ xs : List Int, okL (u8s xs) = true
  | [] => rfl
  | x :: xs => by show (okE (.v (.int .u8 x)) && okL (u8s xs)) = true; rw [okL_u8s xs]; rfl

section
variable {H : Type} {enc : TypeId × Value → H} {P : Program} {W : World}

end
end Go.Proofs.Dev

namespace Go.Proofs.Dev

/-- A text. -/
abbrev tx (l : List UInt8) : Value := .string ⟨l.toArray⟩

@[simp] theorem tx_size (l : List UInt8) : (ByteArray.mk l.toArray).size = l.length := by simp [ByteArray.size]
@[simp] theorem tx_toList (l : List UInt8) : (ByteArray.mk l.toArray).toList = l := by rw [ByteArray.toList_eq]
@[simp] theorem tx_data (l : List UInt8) : (ByteArray.mk l.toArray).data.toList = l := rfl
@[simp] theorem tx_append (a b : List UInt8) : ByteArray.mk a.toArray ++ ByteArray.mk b.toArray = ByteArray.mk (a ++ b).toArray := by
  apply ByteArray.ext
  simp
@[simp] theorem tx_extract (l : List UInt8) (i j : Nat) : (ByteArray.mk l.toArray).extract i j = ByteArray.mk ((l.drop i).take (j - i)).toArray := by
  rw [Go.Lib.extract_eq]
@[simp] theorem tx_nums (ns : List Int) : strOfNums ns = ByteArray.mk (ns.map fun n => UInt8.ofNat n.toNat).toArray := rfl
@[simp] theorem tx_getElem (l : List UInt8) (k : Nat) (h : k < (ByteArray.mk l.toArray).size) : (ByteArray.mk l.toArray)[k]'h = l[k]'(by simpa using h) := rfl
@[simp] theorem tx_getElem? (l : List UInt8) (k : Nat) : (ByteArray.mk l.toArray)[k]? = l[k]? := by
  by_cases h : k < l.length
  · rw [getElem?_pos (ByteArray.mk l.toArray) k (by rw [tx_size]; exact h), List.getElem?_eq_getElem h]; rfl
  · rw [getElem?_neg (ByteArray.mk l.toArray) k (by rw [tx_size]; exact h), List.getElem?_eq_none (by omega)]
@[simp] theorem u8_inj (a b : UInt8) : ((a.toNat : Int) = (b.toNat : Int)) ↔ a = b := by
  rw [← UInt8.toNat_inj]
  omega
/-- The byte at an index. -/
def btx (l : List UInt8) (i : Int) : Int := ((l.getD i.toNat 0).toNat : Int)
@[simp 1100] theorem asidx_tx {l : List UInt8} {k : IntKind} {i : Int} : asidx (.v (.string (ByteArray.mk l.toArray))) (.v (.int k i)) = if 0 ≤ i ∧ i < l.length then some (.v (.int .u8 (btx l i))) else none := by
  simp only [asidx]
  by_cases h0 : 0 ≤ i
  · by_cases h1 : i < l.length
    · have hl : i.toNat < (ByteArray.mk l.toArray).size := by rw [tx_size]; omega
      have hl2 : i.toNat < l.length := by omega
      have e : (ByteArray.mk l.toArray)[i.toNat]? = some l[i.toNat] := by
        rw [getElem?_pos (ByteArray.mk l.toArray) i.toNat hl]
        rfl
      rw [if_pos h0, if_pos ⟨h0, h1⟩, e]
      simp [btx, hl2]
    · have hl : ¬ i.toNat < (ByteArray.mk l.toArray).size := by rw [tx_size]; omega
      have e : (ByteArray.mk l.toArray)[i.toNat]? = none := getElem?_neg (ByteArray.mk l.toArray) i.toNat hl
      rw [if_pos h0, if_neg (fun h => h1 h.2), e]
  · simp [h0]

@[simp] theorem aLen_tx {l : List UInt8} : aLen (.v (.string (ByteArray.mk l.toArray))) = some (.v (.int .i64 l.length)) := by simp [aLen]
@[simp 1100] theorem aBin_add_tx {a b : List UInt8} : aBin .add 1 (.v (.string (ByteArray.mk a.toArray))) (.v (.string (ByteArray.mk b.toArray))) = if a.length + b.length ≤ 140737488355328 then some (.v (.string (ByteArray.mk (a ++ b).toArray))) else none := by
  simp only [aBin, aBinS, tx_size, if_true]
  split <;> simp
@[simp 1100] theorem aBin_eql_tx {a b : List UInt8} : aBin .eql 1 (.v (.string (ByteArray.mk a.toArray))) (.v (.string (ByteArray.mk b.toArray))) = some (.v (.bool (decide (a = b)))) := by
  have e : (a == b) = decide (a = b) := by
    by_cases h : a = b <;> simp [h]
  simp only [aBin, aBinS, tx_toList, if_true, e]
  rfl
@[simp 1100] theorem aBin_neq_tx {a b : List UInt8} : aBin .neq 1 (.v (.string (ByteArray.mk a.toArray))) (.v (.string (ByteArray.mk b.toArray))) = some (.v (.bool (!decide (a = b)))) := by
  have e : (a == b) = decide (a = b) := by
    by_cases h : a = b <;> simp [h]
  simp only [aBin, aBinS, tx_toList, if_true, e]
  rfl

@[simp] theorem aBinS_add_tx {a b : List UInt8} : aBinS .add (ByteArray.mk a.toArray) (ByteArray.mk b.toArray) = if a.length + b.length ≤ 140737488355328 then some (.string (ByteArray.mk (a ++ b).toArray)) else none := by
  simp only [aBinS, tx_size]
  split <;> simp
@[simp] theorem aBinS_eql_tx {a b : List UInt8} : aBinS .eql (ByteArray.mk a.toArray) (ByteArray.mk b.toArray) = some (.bool (decide (a = b))) := by
  have e : (a == b) = decide (a = b) := by
    by_cases h : a = b <;> simp [h]
  simp only [aBinS, tx_toList, e]
@[simp] theorem aBinS_neq_tx {a b : List UInt8} : aBinS .neq (ByteArray.mk a.toArray) (ByteArray.mk b.toArray) = some (.bool (!decide (a = b))) := by
  have e : (a == b) = decide (a = b) := by
    by_cases h : a = b <;> simp [h]
  simp only [aBinS, tx_toList, e]

@[simp] theorem u8L_u8s : ∀ xs : List Int, u8L (u8s xs) = some xs
  | [] => rfl
  | x :: xs => by show (u8L (u8s xs)).map (x :: ·) = _; rw [u8L_u8s xs]; rfl

/-- Texts as elements of a row. -/
def txs (ls : List (List UInt8)) : List AV := ls.map fun l => .v (tx l)
@[simp] theorem txs_length (ls : List (List UInt8)) : (txs ls).length = ls.length := by simp [txs]
@[simp] theorem txs_nil : txs [] = [] := rfl
@[simp] theorem txs_eq_nil (ls : List (List UInt8)) : (txs ls = []) = (ls = []) := by cases ls <;> simp [txs]
/-- The text at an index. -/
def att (ls : List (List UInt8)) (i : Int) : List UInt8 := ls.getD i.toNat []
theorem txs_get {ls : List (List UInt8)} {i : Int} (h1 : i.toNat < ls.length) : (txs ls)[i.toNat]? = some (.v (tx (att ls i))) := by simp [txs, att, h1]
@[simp] theorem txs_getElem {ls : List (List UInt8)} {i : Nat} (h : i < (txs ls).length) : (txs ls)[i]'h = .v (tx (ls[i]'(by simpa using h))) := by simp [txs]
theorem iadr_txs {c : Nat} {k : IntKind} {ls : List (List UInt8)} {i : Int} (h0 : 0 ≤ i) (h1 : i < ls.length) : aiadr 1 (.sl c 1 (txs ls)) (.v (.int k i)) = some (.vp c [.v (tx (att ls i))] 0) := by
  simp [aiadr, h0, txs_get (ls := ls) (i := i) (by omega)]
@[simp] theorem iadr_txs_ite {c : Nat} {k : IntKind} {ls : List (List UInt8)} {i : Int} : aiadr 1 (.sl c 1 (txs ls)) (.v (.int k i)) = if 0 ≤ i ∧ i < ls.length then some (.vp c [.v (tx (att ls i))] 0) else none := by
  by_cases h : 0 ≤ i ∧ i < ls.length
  · rw [if_pos h, iadr_txs h.1 h.2]
  · rw [if_neg h]
    by_cases h0 : 0 ≤ i
    · have : ¬ i.toNat < ls.length := by omega
      simp [aiadr, h0, txs, this]
    · simp [aiadr, h0]
@[simp] theorem vwL_txs (c : Nat) : ∀ ls : List (List UInt8), vwL c (txs ls) = txs ls
  | [] => rfl
  | x :: xs => by show vw c _ :: vwL c (txs xs) = _ :: txs xs; rw [vwL_txs c xs]; rfl
theorem take_txs (n : Nat) (ls : List (List UInt8)) : (txs ls).take n = txs (ls.take n) := by simp [txs]
@[simp] theorem take_txs_all (ls : List (List UInt8)) : (txs ls).take ls.length = txs ls := by rw [take_txs, List.take_length]
@[simp] theorem flatL_txs : ∀ ls : List (List UInt8), flatL (txs ls) = true
  | [] => rfl
  | x :: xs => by show (flatE1 (.v (tx x)) && flatL (txs xs)) = true; rw [flatL_txs xs]; rfl
@[simp] theorem okL_txs : ∀ ls : List (List UInt8), okL (txs ls) = true
  | [] => rfl
  | x :: xs => by show (okE (.v (tx x)) && okL (txs xs)) = true; rw [okL_txs xs]; rfl
theorem flatE_txs : ∀ ls : List (List UInt8), flatE (txs ls) = txs ls
  | [] => rfl
  | x :: xs => by show cellsE _ ++ flatE (txs xs) = _ :: txs xs; rw [flatE_txs xs]; rfl
theorem RL_txs (C : Ctx) : ∀ ls : List (List UInt8), RL C (txs ls) [] (ls.map tx)
  | [] => by show RL C [] [] []; rw [RL]; exact ⟨rfl, rfl⟩
  | x :: xs => by
    show RL C (.v (tx x) :: txs xs) [] (tx x :: xs.map tx)
    rw [RL]; exact ⟨[], [], _, _, rfl, rfl, by rw [R]; exact ⟨rfl, rfl⟩, RL_txs C xs⟩
theorem sized_txs (ls : List (List UInt8)) : Sized 1 (txs ls) := by
  intro e he
  obtain ⟨n, _, rfl⟩ := List.mem_map.1 he
  rfl

end Go.Proofs.Dev

namespace Go.Proofs.Dev
open Go.ChangeShapes Go.WideShapes Go.ChangeAt Go.RowKit

section
variable {H : Type} {enc : TypeId × Value → H} {P : Program} {W : World}

theorem laid_at : ∀ {l : List (String × DataW Unit)} {ps : List MemPlace}, DataW.LaidVars P W l ps → ∀ {n : String} {d : DataW Unit}, (n, d) ∈ l →
    ∃ g t cs fuel p, P.globalNamed n = some g ∧ (P.globals[g]?).map (·.type) = some t ∧ W.var? P n = some cs ∧ DataW.trod (fun _ => ()) P W 0 (fun _ => true) false fuel t cs.toList = some (d, p)
  | [], _, _, _, _, hm => by cases hm
  | (n', d') :: r, ps, h, n, d, hm => by
    obtain ⟨g, t, cs, fuel, p, q, h1, h2, h3, h4, h5, _⟩ := h
    rcases List.mem_cons.1 hm with e | hm
    · cases e
      exact ⟨g, t, cs, fuel, p, h1, h2, h3, h4⟩
    · exact laid_at h5 hm

/-- A package variable that holds a list of texts. -/
theorem words_view {n : String} {t e : TypeId} {g fuel : Nat} {cs : Array Value} {p : List MemPlace} {ls : List (List UInt8)} (hg : P.globalNamed n = some g) (ht : P.underlying t = some (.slice e)) (he : P.underlying e = some .string) (hc : P.cellsOf e = 1) (hv : W.var? P n = some cs)
    (htr : DataW.trod (fun _ => ()) P W 0 (fun _ => true) false fuel t cs.toList = some (.slice (ls.map fun l => .lit (.string l)) [], p)) :
    R (gCtx W [] fun _ => False) (.vp 0 [.sl 0 1 (txs ls)] 0) [] (.pointer (some ⟨g, 0, none⟩)) := by
  rcases open_strings ht he hc htr with ⟨_, hx⟩ | ⟨a, len, cap, ss, hcs, _, hl, _, hss, hx, hcell, _⟩
  · cases hx
  simp only [if_true] at hss
  simp only [Prod.mk.injEq, DataW.slice.injEq] at hx
  obtain ⟨⟨hx1, hx2⟩, _⟩ := hx
  have hlen : len = cap := by
    have h0 : (ss.drop len).length = 0 := by
      have := congrArg List.length hx2
      simp [strs] at this
      simp; omega
    simp at h0
    omega
  subst hlen
  rw [← hss, List.take_length] at hx1
  have hls : ls = ss.map fun s => s.data.toList := by
    have h2 : (ls.map fun l => (DataW.lit (.string l) : DataW Unit)) = ss.map fun s => DataW.lit (.string s.data.toList) := hx1
    have h3 := congrArg (List.map fun d : DataW Unit => match d with | .lit (.string l) => l | _ => []) h2
    simpa [List.map_map, Function.comp_def] using h3
  have h0 : W.cell? ⟨g, 0, none⟩ = some (.slice (some a) len len) := by
    rw [World.var?_cell hg hv 0]
    have : cs.toList[0]? = some (.slice (some a) len len) := by rw [hcs]; rfl
    simpa using this
  rw [R]
  refine ⟨rfl, g, 0, [.slice (some a) len len], rfl, block_lt_of_cell h0, by simp [gCtx], ?_, ?_⟩
  · intro j u hj
    match j, hj with
    | 0, hj => simp only [List.getElem?_cons_zero, Option.some.injEq] at hj; subst hj; exact h0
    | j + 1, hj => simp at hj
  rw [RL]
  refine ⟨[], [], _, _, rfl, rfl, ?_, by rw [RL]; exact ⟨rfl, rfl⟩⟩
  rw [R]
  have hll : (txs ls).length = len := by rw [txs_length, hls]; simp [hss]
  refine ⟨rfl, some a, len, by rw [hll], by rw [hll]; exact Nat.le_refl _, ?_⟩
  by_cases hz : len = 0
  · left; exact List.eq_nil_of_length_eq_zero (by omega)
  right
  have hc0 := hcell 0 (by omega)
  have ha0 : a.add 0 = a := by cases a; rfl
  rw [ha0] at hc0
  have hsp := cell_spot hc0
  refine ⟨a.block, a.off, ls.map tx, by rw [← hsp], block_lt_of_cell hc0, by simp [gCtx, Ctx.at], ?_, sized_txs _, by rw [flatE_txs]; exact RL_txs _ _⟩
  intro j u hj
  rw [hls] at hj
  simp only [List.map_map, List.getElem?_map, Option.map_eq_some_iff] at hj
  obtain ⟨s, hs, rfl⟩ := hj
  have hj' : j < ss.length := (List.getElem?_eq_some_iff.1 hs).1
  have := hcell j hj'
  rw [hsp, addr_add] at this
  show W.cell? ⟨a.block, a.off + j, none⟩ = _
  rw [this, List.getD, hs]
  show some (Value.string s) = some (tx s.data.toList)
  rw [show tx s.data.toList = Value.string ⟨s.data.toList.toArray⟩ from rfl, Go.Lib.mk_data]

/-- The end of a law whose row lists a package variable that holds a list. -/
theorem law_postV {f : FuncId} {fn : Func} {s : ChangeSpec} {args : Array Value} {ds gs : List (DataW H)} {p : List MemPlace} {bs ups : List AV} {tb tv e : TypeId} {nv : String} {g : Nat}
    (hgb : GB W [] fun _ => False) (hs : SoundAt P f bs (.v (.bool true)) ups) (hr : RL (cin W [] fun _ => False) bs [] args.toList) (hl : laidOutB P = true) (hrd : ∀ t ∈ fn.params.toList, P.readableRec t = true ∧ t < P.types.size)
    (hW : DataW.Whole enc P fn.params.toList s.vars false W args.toList ds gs p) (hv0 : s.vars = [nv]) (hspec : ∀ g1, gs = [g1] → s.fn H (ds ++ [g1]) = { results := [.lit (.bool true)], args := ds, vars := [g1] })
    (hrt : fn.resultTypes = #[tb]) (htb : P.underlying tb = some .bool) (hg : P.globalNamed nv = some g) (hgt : (P.globals[g]?).map (·.type) = some tv) (hsl : P.underlying tv = some (.slice e)) (hrv : P.readableRec tv = true ∧ tv < P.types.size) :
    Calls P f args W fun e W' => ∃ v, e = .returned v ∧ s.post enc P fn false true false false W args v W' := by
  have hc := hs W (fun _ => False) args.toList [] hr (by simp) (by simp) ⟨by simp, hgb⟩
  refine hc.mono ?_
  rintro e W' ⟨v, S', rfl, hrl, _, _, hk⟩
  rw [RL] at hrl
  obtain ⟨S1, S2, u, us', _, huv, h1, _⟩ := hrl
  cases huv
  rw [R] at h1
  obtain ⟨_, rfl⟩ := h1
  have hb := kept_below hk
  have hlt : ∀ x ∈ p, x.block < W.heap.size := fun x hx => hW.lt x hx
  have hW' := hW
  obtain ⟨pA, pV, hA, hV, hp, _, _⟩ := hW
  rw [hv0] at hV
  obtain ⟨g', t', cs, fuel, d, q, rfl, h2, h3, h4, h5, h6⟩ := trodVars_one hV
  rw [hg] at h2; cases h2
  rw [hgt] at h3; cases h3
  obtain ⟨v, hcs, hcl⟩ : ∃ v : Value, cs.toList = [v] ∧ v.cells.toList = [v] := by
    rcases Go.Deep.open_slice hsl h5 with ⟨hcs, _⟩ | ⟨a, len, cap, m, n, D, Pl, hcs, _⟩
    · exact ⟨_, hcs, rfl⟩
    · exact ⟨_, hcs, rfl⟩
  have ht0 : DataW.Trod enc P W 0 (fun _ => true) true tv v d q := ⟨fuel, by rw [hcl, ← hcs]; exact h5⟩
  have hqlt : ∀ x ∈ q, x.block < W.heap.size := fun x hx => hlt x (by rw [hp, h6]; simp [hx])
  obtain ⟨fuel', ht1⟩ := Below.trod hl hrv.1 hrv.2 ht0 hb hqlt
  rw [hcl, ← hcs] at ht1
  have hgl : g < W.heap.size := by
    have h0 := World.var?_cell hg h4 0
    have : cs.toList[0]? = some v := by rw [hcs]; rfl
    rw [show cs[0]? = some v by simpa using this] at h0
    exact block_lt_of_cell h0
  have hvar : W'.var? P nv = some cs := by
    simp only [World.var?, hg, Option.bind_some] at h4 ⊢
    rw [hb.block g hgl]; exact h4
  refine ⟨_, rfl, ds, [d], p, [], pA, pV, hW', ?_, ?_, ?_, World.keptBut_mono (fun q hq => ⟨hq, ?_⟩) (hb.frame (· ∈ p)), fun h => by cases h⟩
  · rw [hspec d rfl, hrt]
    exact trodAll_mk1 (shut_bool htb true)
  · rw [hspec d rfl]
    exact trodAll_below hl hb _ _ _ _ hrd hA (fun x hx => hlt x (by rw [hp]; simp [hx]))
  · rw [hspec d rfl, hv0, h6]
    exact trodVars_mk1 hg hgt hvar ht1
  · rw [hp, List.mem_append] at hq
    exact .inr hq

end
end Go.Proofs.Dev

namespace Go.Proofs.Dev

end Go.Proofs.Dev

namespace Go.Proofs.Dev

def wordK (k : Int) : List UInt8 := if k = 0 then [108, 97, 121] else if k = 1 then [108, 105, 102, 116] else if k = 2 then [102, 108, 105, 112] else if k = 3 then [102, 111, 114, 99, 101] else [98, 97, 99, 107]
def b8 (n : Int) : UInt8 := UInt8.ofNat n.toNat
def numT (n : Int) : List UInt8 := if n < 10 then [b8 (48 + n)] else [b8 (48 + n / 10), b8 (48 + n % 10)]
def letT (w : Int) : List UInt8 := if w = 1 then [101] else if w = 2 then [110] else if w = 3 then [119] else if w = 4 then [115] else []
def needD (d : Int × Int × Int) : Bool :=
  if d.1 = 0 then true else if d.1 = 1 ∨ d.1 = 2 then decide (d.2.2 = 0) else if d.1 = 3 ∨ d.1 = 4 then decide (d.2.1 = 0 ∧ d.2.2 = 0) else false
def txtOk (d : Int × Int × Int) : Bool := needD d && decide (0 ≤ d.2.1 ∧ d.2.1 ≤ 99) && (!decide (d.1 = 0) || decide (1 ≤ d.2.2 ∧ d.2.2 ≤ 4))
/-- The text of a deed. -/
def dText (d : Int × Int × Int) : List UInt8 := if txtOk d then wordK d.1 ++ ((if d.1 ≤ 2 then 32 :: numT d.2.1 else []) ++ (if d.1 = 0 then 32 :: letT d.2.2 else [])) else []

/-- What stands between the bytes c. -/
def cutL (c : UInt8) : List UInt8 → List (List UInt8)
  | [] => [[]]
  | x :: s => if x = c then [] :: cutL c s else match cutL c s with
    | [] => [[x]]
    | p :: ps => (x :: p) :: ps
def nth (ps : List (List UInt8)) (i : Nat) : List UInt8 := ps.getD i []

def kindT (p : List UInt8) : Int := if p = wordK 0 then 0 else if p = wordK 1 then 1 else if p = wordK 2 then 2 else if p = wordK 3 then 3 else if p = wordK 4 then 4 else -1
def wayT (p : List UInt8) : Int := if p = letT 1 then 1 else if p = letT 2 then 2 else if p = letT 3 then 3 else if p = letT 4 then 4 else 0
/-- Digits, one after the other; none if there is another sign. -/
def digsT : Int → List UInt8 → Option Int
  | n, [] => some n
  | n, c :: s => if 48 ≤ c.toNat ∧ c.toNat ≤ 57 then digsT (10 * n + ((c.toNat : Int) - 48)) s else none
def digT (p : List UInt8) : Int := if p.length = 0 ∨ 4 < p.length ∨ (1 < p.length ∧ p.head? = some 48) then -1 else (digsT 0 p).getD (-1)

/-- The deed of a text, by the reference. -/
def deedS (s : List UInt8) : Int × Int × Int := let ps := cutL 32 s; (kindT (nth ps 0), if 1 < ps.length then digT (nth ps 1) else 0, if 2 < ps.length then wayT (nth ps 2) else 0)
theorem txt_fin : ∀ k : _root_.Fin 5, ∀ s : _root_.Fin 100, ∀ w : _root_.Fin 5, (if txtOk ((k.val : Int), (s.val : Int), (w.val : Int)) then decide (deedS (dText ((k.val : Int), (s.val : Int), (w.val : Int))) = ((k.val : Int), (s.val : Int), (w.val : Int))) && decide (dText ((k.val : Int), (s.val : Int), (w.val : Int)) ≠ []) else true) = true := by decide +kernel

theorem txt_range {k s w : Int} (h : txtOk (k, s, w) = true) : ∃ (k' : _root_.Fin 5) (s' : _root_.Fin 100) (w' : _root_.Fin 5), k = (k'.val : Int) ∧ s = (s'.val : Int) ∧ w = (w'.val : Int) := by
  simp only [txtOk, needD, Bool.and_eq_true, Bool.or_eq_true, Bool.not_eq_true', decide_eq_false_iff_not, decide_eq_true_eq] at h
  obtain ⟨⟨h1, h2⟩, h3⟩ := h
  have hk : 0 ≤ k ∧ k ≤ 4 ∧ 0 ≤ w ∧ w ≤ 4 := by
    split at h1
    · rename_i h
      have h' : k = 0 := h
      rcases h3 with h3 | h3
      · exact absurd h' h3
      · omega
    · split at h1
      · rename_i h
        have h' : k = 1 ∨ k = 2 := h
        have : w = 0 := by simpa using h1
        omega
      · split at h1
        · rename_i h
          have h' : k = 3 ∨ k = 4 := h
          have : s = 0 ∧ w = 0 := by simpa using h1
          omega
        · cases h1
  exact ⟨⟨k.toNat, by omega⟩, ⟨s.toNat, by omega⟩, ⟨w.toNat, by omega⟩, by simp; omega, by simp; omega, by simp; omega⟩

theorem deed_text {d : Int × Int × Int} (h : txtOk d = true) : deedS (dText d) = d ∧ dText d ≠ [] := by
  obtain ⟨k, s, w⟩ := d
  obtain ⟨k', s', w', rfl, rfl, rfl⟩ := txt_range h
  have := txt_fin k' s' w'
  rw [if_pos h] at this
  simpa using this

theorem dText_nil (d : Int × Int × Int) : dText d = [] ↔ txtOk d = false := by
  constructor
  · intro h
    cases ho : txtOk d with
    | false => rfl
    | true => exact absurd h (deed_text ho).2
  · intro h; simp [dText, h]

end Go.Proofs.Dev

namespace Go.Proofs.Dev

theorem more_fin : ∀ k : _root_.Fin 5, ∀ s : _root_.Fin 100, ∀ w : _root_.Fin 5, (if txtOk ((k.val : Int), (s.val : Int), (w.val : Int)) then (decide ((dText ((k.val : Int), (s.val : Int), (w.val : Int))).getLast? ≠ some 32) && decide ((dText ((k.val : Int), (s.val : Int), (w.val : Int))).length ≤ 12)) else true) = true := by decide +kernel

theorem deed_last {d : Int × Int × Int} (h : txtOk d = true) : (dText d).getLast? ≠ some 32 ∧ (dText d).length ≤ 12 := by
  obtain ⟨k, s, w⟩ := d
  obtain ⟨k', s', w', rfl, rfl, rfl⟩ := txt_range h
  have := more_fin k' s' w'
  rw [if_pos h] at this
  simpa using this

theorem deed_len (d : Int × Int × Int) : (dText d).length ≤ 12 := by
  cases h : txtOk d with
  | true => exact (deed_last h).2
  | false => rw [(dText_nil d).2 h]; simp

end Go.Proofs.Dev

namespace Go.Proofs.Dev
open Go.RowKit
set_option linter.unusedSimpArgs false

theorem kept_of_below {w w' : World} (S : List Nat) (h : Below w.heap.size w w') : Kept w.heap.size S w w' := by
  refine ⟨h.os, h.tape, h.output, h.size, fun k hk _ => h.block k hk, ?_⟩
  intro b p k hr j hj
  obtain ⟨⟨u, hu⟩, hf⟩ := hr j hj
  have hlt : b < w.heap.size := block_lt_of_cell hu
  have hb := h.block b hlt
  rw [World.cell?_of_block (w := w) (a := ⟨b, p + j, none⟩) hb, World.frozen?_of_block (w := w) (a := ⟨b, p + j, none⟩) hb]
  exact ⟨⟨u, hu⟩, hf⟩

end Go.Proofs.Dev
