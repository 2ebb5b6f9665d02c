/- Contracts of the functions of the program over slots and rows, each proved against the program itself; no condition beyond those that each theorem names. -/
import Derived.Test.YtfkmfobbgoflgaaAG
import Derived.ProofKit
import Derived.Lib.SmallJoins
import Derived.Deep.Grids
import Derived.Lib.SlicesCompact
import Derived.Sort.Row
import Derived.Sort.Grow

set_option linter.unusedSimpArgs false
set_option linter.unusedVariables false

namespace Go.Proofs.Dev

/-- Numbers, truths, as elements of a row. -/
def ints (xs : List Int) : List AV := xs.map fun n => .v (.int .i64 n)
def bools (bs : List Bool) : List AV := bs.map fun b => .v (.bool b)

/-- What stands at an index; 0, false behind the end. -/
def ati (xs : List Int) (i : Int) : Int := xs.getD i.toNat 0
def atb (bs : List Bool) (i : Int) : Bool := bs.getD i.toNat false

@[simp] theorem ints_length (xs : List Int) : (ints xs).length = xs.length := by simp [ints]
@[simp] theorem bools_length (xs : List Bool) : (bools xs).length = xs.length := by simp [bools]
@[simp] theorem ints_nil : ints [] = [] := rfl
@[simp] theorem bools_nil : bools [] = [] := rfl
theorem ints_append (a b : List Int) : ints (a ++ b) = ints a ++ ints b := by simp [ints]
theorem bools_append (a b : List Bool) : bools (a ++ b) = bools a ++ bools b := by simp [bools]
theorem ints_one (a : Int) : ints [a] = [.v (.int .i64 a)] := rfl
theorem bools_one (a : Bool) : bools [a] = [.v (.bool a)] := rfl
@[simp] theorem ints_eq_nil (xs : List Int) : (ints xs = []) = (xs = []) := by cases xs <;> simp [ints]
@[simp] theorem bools_eq_nil (xs : List Bool) : (bools xs = []) = (xs = []) := by cases xs <;> simp [bools]

theorem ints_get {xs : List Int} {i : Int} (h1 : i.toNat < xs.length) : (ints xs)[i.toNat]? = some (.v (.int .i64 (ati xs i))) := by simp [ints, ati, h1]
theorem bools_get {xs : List Bool} {i : Int} (h1 : i.toNat < xs.length) : (bools xs)[i.toNat]? = some (.v (.bool (atb xs i))) := by simp [bools, atb, h1]

theorem iadr_ints {c : Nat} {k : IntKind} {xs : List Int} {i : Int} (h0 : 0 ≤ i) (h1 : i < xs.length) : aiadr 1 (.sl c 1 (ints xs)) (.v (.int k i)) = some (.vp c [.v (.int .i64 (ati xs i))] 0) := by
  simp [aiadr, h0, ints_get (xs := xs) (i := i) (by omega)]
theorem iadr_bools {c : Nat} {k : IntKind} {xs : List Bool} {i : Int} (h0 : 0 ≤ i) (h1 : i < xs.length) : aiadr 1 (.sl c 1 (bools xs)) (.v (.int k i)) = some (.vp c [.v (.bool (atb xs i))] 0) := by
  simp [aiadr, h0, bools_get (xs := xs) (i := i) (by omega)]
@[simp] theorem iadr_ints_ite {c : Nat} {k : IntKind} {xs : List Int} {i : Int} : aiadr 1 (.sl c 1 (ints xs)) (.v (.int k i)) = if 0 ≤ i ∧ i < xs.length then some (.vp c [.v (.int .i64 (ati xs i))] 0) else none := by
  by_cases h : 0 ≤ i ∧ i < xs.length
  · rw [if_pos h, iadr_ints h.1 h.2]
  · rw [if_neg h]
    by_cases h0 : 0 ≤ i
    · have : ¬ i.toNat < xs.length := by omega
      simp [aiadr, h0, ints, this]
    · simp [aiadr, h0]
@[simp] theorem iadr_bools_ite {c : Nat} {k : IntKind} {xs : List Bool} {i : Int} : aiadr 1 (.sl c 1 (bools xs)) (.v (.int k i)) = if 0 ≤ i ∧ i < xs.length then some (.vp c [.v (.bool (atb xs i))] 0) else none := by
  by_cases h : 0 ≤ i ∧ i < xs.length
  · rw [if_pos h, iadr_bools h.1 h.2]
  · rw [if_neg h]
    by_cases h0 : 0 ≤ i
    · have : ¬ i.toNat < xs.length := by omega
      simp [aiadr, h0, bools, this]
    · simp [aiadr, h0]
@[simp] theorem iadr_ls_ite {sz id off n : Nat} {k : IntKind} {i : Int} : aiadr sz (.ls sz id off n) (.v (.int k i)) = if 0 ≤ i ∧ i < n then some (.lp sz id (off + i.toNat) 0) else none := by
  simp [aiadr]

@[simp] theorem vwL_ints (c : Nat) : ∀ xs : List Int, vwL c (ints xs) = ints xs
  | [] => rfl
  | x :: xs => by show vw c _ :: vwL c (ints xs) = _ :: ints xs; rw [vwL_ints c xs]; rfl
@[simp] theorem vwL_bools (c : Nat) : ∀ xs : List Bool, vwL c (bools xs) = bools xs
  | [] => rfl
  | x :: xs => by show vw c _ :: vwL c (bools xs) = _ :: bools xs; rw [vwL_bools c xs]; rfl
theorem take_ints (n : Nat) (xs : List Int) : (ints xs).take n = ints (xs.take n) := by simp [ints]
theorem take_bools (n : Nat) (xs : List Bool) : (bools xs).take n = bools (xs.take n) := by simp [bools]
@[simp] theorem take_ints_all (xs : List Int) : (ints xs).take xs.length = ints xs := by rw [take_ints, List.take_length]
@[simp] theorem take_bools_all (xs : List Bool) : (bools xs).take xs.length = bools xs := by rw [take_bools, List.take_length]
@[simp] theorem flatL_ints : ∀ xs : List Int, flatL (ints xs) = true
  | [] => rfl
  | x :: xs => by show (flatE1 (.v (.int .i64 x)) && flatL (ints xs)) = true; rw [flatL_ints xs]; rfl
@[simp] theorem flatL_bools : ∀ xs : List Bool, flatL (bools xs) = true
  | [] => rfl
  | x :: xs => by show (flatE1 (.v (.bool x)) && flatL (bools xs)) = true; rw [flatL_bools xs]; rfl
@[simp] theorem okL_ints : ∀ xs : List Int, okL (ints xs) = true
  | [] => rfl
  | x :: xs => by show (okE (.v (.int .i64 x)) && okL (ints xs)) = true; rw [okL_ints xs]; rfl
@[simp] theorem okL_bools : ∀ xs : List Bool, okL (bools xs) = true
  | [] => rfl
  | x :: xs => by show (okE (.v (.bool x)) && okL (bools xs)) = true; rw [okL_bools xs]; rfl

theorem ints_set (xs : List Int) (i : Nat) (x : Int) : (ints xs).set i (.v (.int .i64 x)) = ints (xs.set i x) := by simp [ints, List.map_set]
theorem bools_set (xs : List Bool) (i : Nat) (x : Bool) : (bools xs).set i (.v (.bool x)) = bools (xs.set i x) := by simp [bools, List.map_set]
theorem ints_rep (n : Nat) (x : Int) : List.replicate n (.v (.int .i64 x)) = ints (List.replicate n x) := by simp [ints]
theorem bools_rep (n : Nat) (x : Bool) : List.replicate n (.v (.bool x)) = bools (List.replicate n x) := by simp [bools]

attribute [simp] abox amk aslice bnds optI okE allOk okCell ast afadr setL aapp baseOf srcOf killAll aextr aConv aMin1 zipP aparts absl sizedB purgeH purgeR okL flatL flatE1 flatV allV rv rvL ownL treesL backL rd rdL rd0 rd0L isBot vw vwL padN thawL fitK Value.oneCell' asslice asidx aidx

theorem call_on {P : Program} {K : ES → Heap → Prop} {E : ES} {H : Heap} {f : Nat} {ms : List Bool} {avs : List AV} {dst : Option Nat} {ts : List AV} {r : AV} {ups : List AV} (hs : SoundAt P f ts r ups)
    (h : ∃ ks, ownL H avs ms = some ks ∧ ks.Nodup ∧ treesL H (killAll ks H) ks.isEmpty avs ms = some ts ∧ ∃ p, backL avs ms ups (thaw r H.length).2.2 = some p ∧
      K (putE (if ks.isEmpty then E else purgeE E) dst (thaw r H.length).1) (setRows ((thaw r H.length).2.1 ++ p.1) (padN (p.2 - H.length) (killAll ks (if ks.isEmpty then H else purgeH H))))) : callNode P f ms avs E H dst K := by
  obtain ⟨ks, h1, h2, h3, p, h4, h5⟩ := h
  exact ⟨ks, h1, h2, ts, h3, _, hs.set, by rintro _ _ ⟨rfl, rfl⟩; exact ⟨p, h4, h5⟩⟩

theorem call_onS {P : Program} {K : ES → Heap → Prop} {E : ES} {H : Heap} {f : Nat} {ms : List Bool} {avs : List AV} {dst : Option Nat} {ts : List AV} {post : AV → List AV → Prop} (hs : SoundSet P f ts post)
    (h : ∃ ks, ownL H avs ms = some ks ∧ ks.Nodup ∧ treesL H (killAll ks H) ks.isEmpty avs ms = some ts ∧ ∀ r ups, post r ups → ∃ p, backL avs ms ups (thaw r H.length).2.2 = some p ∧
      K (putE (if ks.isEmpty then E else purgeE E) dst (thaw r H.length).1) (setRows ((thaw r H.length).2.1 ++ p.1) (padN (p.2 - H.length) (killAll ks (if ks.isEmpty then H else purgeH H))))) : callNode P f ms avs E H dst K := by
  obtain ⟨ks, h1, h2, h3, h4⟩ := h
  exact ⟨ks, h1, h2, ts, h3, post, hs, h4⟩

/-- All indices below n. -/
def allB (n : Nat) (p : Nat → Bool) : Bool := (List.range n).all p
theorem allB_zero (p : Nat → Bool) : allB 0 p = true := rfl
theorem allB_succ (n : Nat) (p : Nat → Bool) : allB (n + 1) p = (allB n p && p n) := by simp [allB, List.range_succ]
theorem allB_iff (n : Nat) (p : Nat → Bool) : allB n p = true ↔ ∀ k, k < n → p k = true := by simp [allB]
theorem allB_false {n k : Nat} {p : Nat → Bool} (hk : k < n) (h : p k = false) : allB n p = false := by
  cases he : allB n p with
  | false => rfl
  | true => rw [allB_iff] at he; rw [he k hk] at h; cases h

end Go.Proofs.Dev

namespace Go.Proofs.Dev
open Go.ChangeShapes Go.WideShapes Go.ChangeAt Go.RowKit

theorem flatE_ints : ∀ xs : List Int, flatE (ints xs) = ints xs
  | [] => rfl
  | x :: xs => by show cellsE _ ++ flatE (ints xs) = _ :: ints xs; rw [flatE_ints xs]; rfl
theorem RL_ints (C : Ctx) : ∀ xs : List Int, RL C (ints xs) [] (xs.map fun n => Value.int .i64 n)
  | [] => by show RL C [] [] []; rw [RL]; exact ⟨rfl, rfl⟩
  | x :: xs => by
    show RL C (.v (.int .i64 x) :: ints xs) [] (.int .i64 x :: xs.map fun n => Value.int .i64 n)
    rw [RL]; exact ⟨[], [], _, _, rfl, rfl, by rw [R]; exact ⟨rfl, rfl⟩, RL_ints C xs⟩
theorem sized_ints (xs : List Int) : Sized 1 (ints xs) := by
  intro e he
  obtain ⟨n, _, rfl⟩ := List.mem_map.1 he
  rfl
theorem sized_bools (xs : List Bool) : Sized 1 (bools xs) := by
  intro e he
  obtain ⟨n, _, rfl⟩ := List.mem_map.1 he
  rfl

section
variable {H : Type} {enc : TypeId × Value → H} {P : Program} {W : World}

theorem cell_spot {w : World} {a : Addr} {v : Value} (h : w.cell? a = some v) : a = ⟨a.block, a.off, none⟩ := by
  obtain ⟨b, o, s⟩ := a
  cases s with
  | none => rfl
  | some s =>
    unfold World.cell? at h
    split at h <;> simp at h

/-- A row of numbers is read. -/
theorem view_row {xs : List Value} {es : List AV} {a : Addr} {len cap : Nat} (hl : len ≤ cap) (hx : xs.length = len) (he : es.length = len) (hcell : ∀ i v, xs[i]? = some v → W.cell? (a.add i) = some v)
    (hs : Sized 1 es) (hr : RL ((cin W [] fun _ => False).at 1) (flatE es) [] xs) : R (cin W [] fun _ => False) (.sl 1 1 es) [] (.slice (some a) len cap) := by
  rw [R]
  refine ⟨rfl, some a, cap, by rw [he], by omega, ?_⟩
  by_cases h0 : len = 0
  · left; exact List.eq_nil_of_length_eq_zero (by omega)
  right
  have hc0 := hcell 0 _ (by rw [List.getElem?_eq_getElem (by omega)])
  have ha0 : a.add 0 = a := by cases a; rfl
  rw [ha0] at hc0
  have hsp := cell_spot hc0
  refine ⟨a.block, a.off, xs, by rw [← hsp], block_lt_of_cell hc0, by simp [cin], ?_, hs, hr⟩
  intro j u hj
  have := hcell j u hj
  rw [hsp, addr_add] at this
  exact this

theorem joinedFacts_of {P : Program} {f : FuncId} {fn : Func} {s : ChangeSpec} {c : OpenClaim} (h0 : (c.wf (OpenSpec.ofChange s)) = true) (h1 : (laidOutB P) = true) (h2 : (mapsRowed P) = true) (h3 : (fn.params.all (P.readableRec ·)) = true) (h4 : (namedTie P c.named s.vars) = true) (h5 : ((c.stops == [])) = true) (h6 : ((P.stops == [])) = true) (h7 : ((c.knobs == [])) = true) (h8 : ((P.stopKnobs == [])) = true) (h9 : ((c.inPlace == P.inPlace f)) = true) (h10 : ((c.unfollowed == P.unfollowed f)) = true) (h11 : ((c.recurses == P.recurses f)) = true) (h12 : ((c.named == P.varsNamed f)) = true) (h13 : ((c.maps == (fn.params.toList ++ s.plain.varTypes P).any (P.mapsRec ·))) = true) (h14 : ((c.ifaces == (fn.params.toList ++ s.plain.varTypes P).any (P.ifacesRec ·))) = true) (h15 : ((c.mapsOut == P.mapsAmong fn.resultTypes.toList)) = true) (h16 : ((c.loops == (fn.params.toList ++ s.plain.varTypes P).any (P.loopsFrom ·))) = true) (h17 : ((c.wideKeys == (fn.params.toList ++ s.plain.varTypes P ++ fn.resultTypes.toList).any (P.wideKeysFrom ·))) = true) (h18 : (s.vars.all (P.varReadable ·)) = true) (h19 : (fn.resultTypes.all (fun t => P.readableRec t && decide (t < P.types.size))) = true) (h20 : ((c.ifacesOut == fn.resultTypes.toList.any (P.ifacesRec ·))) = true) (h21 : ((c.loopsOut == fn.resultTypes.toList.any (P.loopsFrom ·))) = true) (h22 : ((c.plainKeys == P.plainKeys)) = true) (h23 : (c.shortTexts.isNone) = true) (h24 : (P.stopsHeard) = true) (h25 : (P.mayEnter) = true) (h26 : ((c.lifted == P.liftsFinal)) = true) (h27 : ((P.make == some c.make)) = true) (h28 : c.domain = [] ∧ c.kinds = []) (h29 : ((c.pinned == c.pinnedBy)) = true) (h30 : ((c.veiled == (fn.params.toList ++ s.plain.varTypes P ++ fn.resultTypes.toList).any (P.veiledRec ·))) = true) (h31 : (c.veiledFits P fn.params.toList (fn.params.toList ++ s.plain.varTypes P ++ fn.resultTypes.toList)) = true) : joinedFacts P f fn s c = true := by
  simp only [joinedFacts, Bool.and_eq_true]
  exact ⟨⟨⟨⟨⟨⟨⟨⟨⟨⟨⟨⟨⟨⟨⟨⟨⟨⟨⟨⟨⟨⟨⟨⟨⟨⟨⟨⟨⟨⟨⟨h0, h1⟩, h2⟩, h3⟩, h4⟩, h5⟩, h6⟩, h7⟩, h8⟩, h9⟩, h10⟩, h11⟩, h12⟩, h13⟩, h14⟩, h15⟩, h16⟩, h17⟩, h18⟩, h19⟩, h20⟩, h21⟩, h22⟩, h23⟩, h24⟩, h25⟩, h26⟩, h27⟩, by simp [h28]⟩, h29⟩, h30⟩, h31⟩

theorem kept_below {B : Nat} {w w' : World} (h : Kept B [] w w') : Below B w w' := ⟨h.os, h.tape, h.output, h.size, fun k hk => h.block k hk (by simp)⟩

theorem trodAll_below (hl : laidOutB P = true) {W' : World} (hb : Below W.heap.size W W') : ∀ (ts : List TypeId) (vs : List Value) (ds : List (DataW H)) (ps : List MemPlace), (∀ t ∈ ts, P.readableRec t = true ∧ t < P.types.size) →
    DataW.TrodAll enc P W 0 (fun _ => true) true ts vs ds ps → (∀ x ∈ ps, x.block < W.heap.size) → DataW.TrodAll enc P W' 0 (fun b => decide (b < W.heap.size)) true ts vs ds ps
  | [], [], [], ps, _, h, _ => h
  | t :: ts, v :: vs, d :: ds, ps, hr, h, hlt => by
    obtain ⟨p, q, h1, h2, rfl⟩ := h
    obtain ⟨r1, r2⟩ := hr t (by simp)
    exact ⟨p, q, Below.trod hl r1 r2 h1 hb (fun x hx => hlt x (by simp [hx])), trodAll_below hl hb ts vs ds q (fun t ht => hr t (by simp [ht])) h2 (fun x hx => hlt x (by simp [hx])), rfl⟩
  | [], _ :: _, _, _, _, h, _ => by cases h
  | [], [], _ :: _, _, _, h, _ => by cases h
  | _ :: _, [], _, _, _, h, _ => by cases h
  | _ :: _, _ :: _, [], _, _, h, _ => by cases h

/-- The end of a law: true was returned, the arguments read as before. -/
theorem law_post {f : FuncId} {fn : Func} {s : ChangeSpec} {args : Array Value} {ds : List (DataW H)} {p : List MemPlace} {bs ups : List AV} {tb : TypeId}
    (hs : SoundAt P f bs (.v (.bool true)) ups) (hr : RL (cin W [] fun _ => False) bs [] args.toList) (hl : laidOutB P = true) (hrd : ∀ t ∈ fn.params.toList, P.readableRec t = true ∧ t < P.types.size)
    (hW : DataW.Whole enc P fn.params.toList s.vars false W args.toList ds [] p) (hv0 : s.vars = []) (hspec : s.fn H (ds ++ []) = { results := [.lit (.bool true)], args := ds })
    (hrt : fn.resultTypes = #[tb]) (htb : P.underlying tb = some .bool) :
    Calls P f args W fun e W' => ∃ v, e = .returned v ∧ s.post enc P fn false true false false W args v W' := by
  have hc := hs W (fun _ => False) args.toList [] hr (by simp) (by simp) (by simp)
  refine hc.mono ?_
  rintro e W' ⟨v, S', rfl, hrl, _, _, hk⟩
  rw [RL] at hrl
  obtain ⟨S1, S2, u, us', _, huv, h1, _⟩ := hrl
  cases huv
  rw [R] at h1
  obtain ⟨_, rfl⟩ := h1
  have hb := kept_below hk
  have hlt : ∀ x ∈ p, x.block < W.heap.size := fun x hx => hW.lt x hx
  have hW' := hW
  obtain ⟨pA, pV, hA, hV, hp, _, _⟩ := hW
  rw [hv0] at hV
  obtain ⟨_, rfl⟩ := trodVars_none hV
  rw [List.append_nil] at hp
  subst hp
  refine ⟨_, rfl, ds, [], p, [], p, [], hW', ?_, ?_, ?_, World.keptBut_mono (fun q hq => ⟨hq, .inr (.inl hq)⟩) (hb.frame (· ∈ p)), fun h => by cases h⟩
  · rw [hspec, hrt]
    exact trodAll_mk1 (shut_bool htb true)
  · rw [hspec]
    exact trodAll_below hl hb _ _ _ _ hrd hA hlt
  · rw [hspec, hv0]
    exact rfl

end
end Go.Proofs.Dev

namespace Go.Proofs.Dev

theorem RL_bots {C : Ctx} : ∀ (n : Nat) {S : List Nat} {us : List Value}, RL C (List.replicate n .bot) S us → S = [] ∧ ∀ C', RL C' (List.replicate n .bot) [] us
  | 0, S, us, h => by
    rw [List.replicate_zero, RL] at h
    exact ⟨h.1, fun C' => by rw [List.replicate_zero, RL]; exact ⟨rfl, h.2⟩⟩
  | n + 1, S, us, h => by
    rw [List.replicate_succ, RL] at h
    obtain ⟨S1, S2, u, us', rfl, rfl, h1, h2⟩ := h
    rw [R] at h1
    obtain ⟨h3, h4⟩ := RL_bots n h2
    refine ⟨by rw [h1, h3]; rfl, fun C' => ?_⟩
    rw [List.replicate_succ, RL]
    exact ⟨[], [], u, us', rfl, rfl, by rw [R], h4 C'⟩

theorem SoundAt.frozen {P : Program} {f n : Nat} {as : List AV} {r : AV} (hS : ∀ C S us, RL C as S us → S = []) (h : SoundAt P f as r (List.replicate n .bot)) : SoundAt P f as (vw 0 r) (List.replicate n .bot) := by
  intro w forb us S hr hnd hsz hforb
  have hS0 : S = [] := hS _ _ _ hr
  subst hS0
  refine Calls.mono (h w forb us [] hr hnd hsz hforb) ?_
  rintro e w' ⟨v, S', he, hv, hnd', hmem, hk⟩
  rw [RL] at hv
  obtain ⟨S1, S2, u, us', rfl, hu, h1, h2⟩ := hv
  cases hu
  obtain ⟨rfl, h4⟩ := RL_bots n h2
  refine ⟨v, [], he, ?_, List.nodup_nil, by simp, hk⟩
  rw [RL]
  refine ⟨[], [], v, us, rfl, rfl, ?_, h4 _⟩
  refine R.open (c := 0) (vw_ok (C' := cout w' [] forb) 0 r (cout w' (S1 ++ []) forb) (fun _ => rfl) rfl ?_ S1 v h1 ?_)
  · intro d b _ hb
    match d, hb with
    | 0, hb =>
      intro hx
      rcases hx with hx | hx
      · cases hx
      · exact hb (.inr hx)
    | d + 1, hb => exact absurd trivial hb
  · intro x hx hbad
    rcases hbad with hbad | hbad
    · cases hbad
    · rcases (hmem x (by simp [hx])).2 with h5 | h5
      · have := hforb x hbad
        omega
      · cases h5

end Go.Proofs.Dev

namespace Go.Proofs.Dev

mutual
/-- Without views, places and rows. -/
def noV : AV → Bool
  | .bot => true
  | .v _ => true
  | .os _ es => noVL es
  | .op cs => noVL cs
  | .agg cs => noVL cs
  | .tup cs => noVL cs
  | .fn _ cs => noVL cs
  | _ => false
def noVL : List AV → Bool
  | [] => true
  | a :: as => noV a && noVL as
end

theorem noVL_append : ∀ (a b : List AV), noVL (a ++ b) = (noVL a && noVL b)
  | [], b => by simp [noVL]
  | x :: a, b => by simp [noVL, noVL_append a b, Bool.and_assoc]

theorem noV_cells (e : AV) (h : noV e = true) : noVL (cellsE e) = true := by
  cases e <;> simp_all [cellsE, noVL, noV]

theorem noVL_flat : ∀ (es : List AV), noVL es = true → noVL (flatE es) = true
  | [], _ => by simp [flatE, noVL]
  | e :: es, h => by
    simp only [noVL, Bool.and_eq_true] at h
    simp only [flatE, noVL_append, Bool.and_eq_true]
    exact ⟨noV_cells e h.1, noVL_flat es h.2⟩

mutual
theorem noV_ok {C C' : Ctx} (hw : C'.w = C.w) : ∀ (a : AV) (S : List Nat) (u : Value), noV a = true → R C a S u → R C' a S u
  | .bot, S, u, _, hr => by rw [R] at *; exact hr
  | .v x, S, u, _, hr => by rw [R] at *; exact hr
  | .os sz es, S, u, hn, hr => by
    rw [R] at *
    simp only [noV] at hn
    obtain ⟨a, cap, hu, hc, hr⟩ := hr
    refine ⟨a, cap, hu, hc, orR ?_ hr⟩
    rintro ⟨h0, b, p, us, S', rfl, ha, hb, hroom, hcells, hsz, hrl⟩
    exact ⟨h0, b, p, us, S', rfl, ha, by rw [hw]; exact hb, by rw [hw]; exact hroom, by rw [hw]; exact hcells, hsz, noVL_ok (C := C.at 0) (C' := C'.at 0) hw _ _ _ (noVL_flat es hn) hrl⟩
  | .op cs, S, u, hn, hr => by
    rw [R] at *
    simp only [noV] at hn
    obtain ⟨b, p, us, S', rfl, hu, hb, hroom, hcells, hrl⟩ := hr
    exact ⟨b, p, us, S', rfl, hu, by rw [hw]; exact hb, by rw [hw]; exact hroom, by rw [hw]; exact hcells, noVL_ok (C := C.at 0) (C' := C'.at 0) hw _ _ _ hn hrl⟩
  | .agg cs, S, u, hn, hr => by
    rw [R] at *
    simp only [noV] at hn
    obtain ⟨us, hu, hrl⟩ := hr
    exact ⟨us, hu, noVL_ok hw _ _ _ hn hrl⟩
  | .tup cs, S, u, hn, hr => by
    rw [R] at *
    simp only [noV] at hn
    obtain ⟨us, hu, hrl⟩ := hr
    exact ⟨us, hu, noVL_ok hw _ _ _ hn hrl⟩
  | .fn f cs, S, u, hn, hr => by
    rw [R] at *
    simp only [noV] at hn
    obtain ⟨us, hu, hrl⟩ := hr
    exact ⟨us, hu, noVL_ok hw _ _ _ hn hrl⟩
  | .sl .., S, u, hn, hr => by simp [noV] at hn
  | .vp .., S, u, hn, hr => by simp [noV] at hn
  | .ls .., S, u, hn, hr => by simp [noV] at hn
  | .lw .., S, u, hn, hr => by simp [noV] at hn
  | .lp .., S, u, hn, hr => by simp [noV] at hn
termination_by a => SizeOf.sizeOf a
decreasing_by all_goals (first | (have := sizeOf_flatE es; simp; omega) | (simp; done) | (simp; omega))
theorem noVL_ok {C C' : Ctx} (hw : C'.w = C.w) : ∀ (as : List AV) (S : List Nat) (us : List Value), noVL as = true → RL C as S us → RL C' as S us
  | [], S, us, _, hr => by rw [RL] at *; exact hr
  | a :: as, S, us, hn, hr => by
    rw [RL] at *
    simp only [noVL, Bool.and_eq_true] at hn
    obtain ⟨S1, S2, u, us', rfl, rfl, h1, h2⟩ := hr
    exact ⟨S1, S2, u, us', rfl, rfl, noV_ok hw _ _ _ hn.1 h1, noVL_ok hw _ _ _ hn.2 h2⟩
termination_by a => SizeOf.sizeOf a
decreasing_by all_goals (simp; omega)
end

theorem noVL_bots : ∀ n : Nat, noVL (List.replicate n .bot) = true
  | 0 => by simp [noVL]
  | n + 1 => by simp [List.replicate_succ, noVL, noV, noVL_bots n]

mutual
/-- Nothing that is owned. -/
def noO : AV → Bool
  | .bot => true
  | .v _ => true
  | .sl .. => true
  | .vp .. => true
  | .agg cs => noOL cs
  | .tup cs => noOL cs
  | .fn _ cs => noOL cs
  | _ => false
def noOL : List AV → Bool
  | [] => true
  | a :: as => noO a && noOL as
end

mutual
theorem noO_ok {C : Ctx} : ∀ (a : AV) (S : List Nat) (u : Value), noO a = true → R C a S u → S = []
  | .bot, S, u, _, hr => by rw [R] at hr; exact hr
  | .v x, S, u, _, hr => by rw [R] at hr; exact hr.1
  | .sl .., S, u, _, hr => by rw [R] at hr; exact hr.1
  | .vp .., S, u, _, hr => by rw [R] at hr; exact hr.1
  | .agg cs, S, u, hn, hr => by
    rw [R] at hr
    obtain ⟨us, _, hrl⟩ := hr
    exact noOL_ok cs S us (by simpa [noO] using hn) hrl
  | .tup cs, S, u, hn, hr => by
    rw [R] at hr
    obtain ⟨us, _, hrl⟩ := hr
    exact noOL_ok cs S us (by simpa [noO] using hn) hrl
  | .fn f cs, S, u, hn, hr => by
    rw [R] at hr
    obtain ⟨us, _, hrl⟩ := hr
    exact noOL_ok cs S us (by simpa [noO] using hn) hrl
  | .os .., S, u, hn, hr => by simp [noO] at hn
  | .op .., S, u, hn, hr => by simp [noO] at hn
  | .ls .., S, u, hn, hr => by simp [noO] at hn
  | .lw .., S, u, hn, hr => by simp [noO] at hn
  | .lp .., S, u, hn, hr => by simp [noO] at hn
theorem noOL_ok {C : Ctx} : ∀ (as : List AV) (S : List Nat) (us : List Value), noOL as = true → RL C as S us → S = []
  | [], S, us, _, hr => by rw [RL] at hr; exact hr.1
  | a :: as, S, us, hn, hr => by
    rw [RL] at hr
    simp only [noOL, Bool.and_eq_true] at hn
    obtain ⟨S1, S2, u, us', rfl, rfl, h1, h2⟩ := hr
    rw [noO_ok a S1 u hn.1 h1, noOL_ok as S2 us' hn.2 h2]
    rfl
end

theorem SoundAt.lift {P : Program} {f n : Nat} {as : List AV} {r : AV} (hS : ∀ C S us, RL C as S us → S = []) (hv : noV r = true) (h : SoundAt P f (vwL 0 as) r (List.replicate n .bot)) : SoundAt P f as r (List.replicate n .bot) := by
  intro w forb us S hr hnd hsz hforb
  have hS0 : S = [] := hS _ _ _ hr
  subst hS0
  have hin : RL (cin w [] fun _ => False) (vwL 0 as) [] us := by
    refine RL.open (c := 0) (vwL_ok (C' := cin w [] fun _ => False) 0 as (cin w [] forb) (fun _ => rfl) rfl ?_ [] us hr (by simp))
    intro d b _ _ hx
    rcases hx with hx | hx
    · cases hx
    · exact hx
  refine Calls.mono (h w (fun _ => False) us [] hin List.nodup_nil (by simp) (by simp)) ?_
  rintro e w' ⟨v, S', he, hvv, hnd', hmem, hk⟩
  refine ⟨v, S', he, ?_, hnd', hmem, hk⟩
  exact noVL_ok (C := cout w' S' fun _ => False) (C' := cout w' S' forb) rfl _ _ _ (by simp only [noVL, hv, noVL_bots n, Bool.and_true]) hvv

end Go.Proofs.Dev

namespace Go.Proofs.Dev
open Go.ChangeShapes Go.WideShapes Go.ChangeAt Go.RowKit

def u8s (xs : List Int) : List AV := xs.map fun n => .v (.int .u8 n)
def Byt (xs : List Int) : Prop := ∀ x ∈ xs, 0 ≤ x ∧ x ≤ 255

@[simp] theorem u8s_length (xs : List Int) : (u8s xs).length = xs.length := by simp [u8s]
@[simp] theorem u8s_nil : u8s [] = [] := rfl
@[simp] theorem u8s_eq_nil (xs : List Int) : (u8s xs = []) = (xs = []) := by cases xs <;> simp [u8s]
theorem u8s_get {xs : List Int} {i : Int} (h1 : i.toNat < xs.length) : (u8s xs)[i.toNat]? = some (.v (.int .u8 (ati xs i))) := by simp [u8s, ati, h1]
theorem iadr_u8s {c : Nat} {k : IntKind} {xs : List Int} {i : Int} (h0 : 0 ≤ i) (h1 : i < xs.length) : aiadr 1 (.sl c 1 (u8s xs)) (.v (.int k i)) = some (.vp c [.v (.int .u8 (ati xs i))] 0) := by
  simp [aiadr, h0, u8s_get (xs := xs) (i := i) (by omega)]
@[simp] theorem iadr_u8s_ite {c : Nat} {k : IntKind} {xs : List Int} {i : Int} : aiadr 1 (.sl c 1 (u8s xs)) (.v (.int k i)) = if 0 ≤ i ∧ i < xs.length then some (.vp c [.v (.int .u8 (ati xs i))] 0) else none := by
  by_cases h : 0 ≤ i ∧ i < xs.length
  · rw [if_pos h, iadr_u8s h.1 h.2]
  · rw [if_neg h]
    by_cases h0 : 0 ≤ i
    · have : ¬ i.toNat < xs.length := by omega
      simp [aiadr, h0, u8s, this]
    · simp [aiadr, h0]
@[simp] theorem vwL_u8s (c : Nat) : ∀ xs : List Int, vwL c (u8s xs) = u8s xs
  | [] => rfl
  | x :: xs => by show vw c _ :: vwL c (u8s xs) = _ :: u8s xs; rw [vwL_u8s c xs]; rfl
theorem take_u8s (n : Nat) (xs : List Int) : (u8s xs).take n = u8s (xs.take n) := by simp [u8s]
@[simp] theorem take_u8s_all (xs : List Int) : (u8s xs).take xs.length = u8s xs := by rw [take_u8s, List.take_length]
@[simp] theorem flatL_u8s : ∀ xs : List Int, flatL (u8s xs) = true
  | [] => rfl
  | x :: xs => by show (flatE1 (.v (.int .u8 x)) && flatL (u8s xs)) = true; rw [flatL_u8s xs]; rfl
@[simp] theorem okL_u8s : ∀ xs : List Int, okL (u8s xs) = true
  | [] => rfl
  | x :: xs => by show (okE (.v (.int .u8 x)) && okL (u8s xs)) = true; rw [okL_u8s xs]; rfl

theorem byt_at {xs : List Int} (h : Byt xs) (i : Int) : 0 ≤ ati xs i ∧ ati xs i ≤ 255 := by
  unfold ati
  by_cases hi : i.toNat < xs.length
  · simp only [List.getD_eq_getElem?_getD, List.getElem?_eq_getElem hi, Option.getD_some]
    exact h _ (List.getElem_mem hi)
  · simp [List.getElem?_eq_none (show xs.length ≤ i.toNat by omega)]
theorem byt_take {xs : List Int} (h : Byt xs) (n : Nat) : Byt (xs.take n) := fun x hx => h x (List.mem_of_mem_take hx)

theorem flatE_u8s : ∀ xs : List Int, flatE (u8s xs) = u8s xs
  | [] => rfl
  | x :: xs => by show cellsE _ ++ flatE (u8s xs) = _ :: u8s xs; rw [flatE_u8s xs]; rfl
theorem RL_u8s (C : Ctx) : ∀ xs : List Int, RL C (u8s xs) [] (xs.map fun n => Value.int .u8 n)
  | [] => by show RL C [] [] []; rw [RL]; exact ⟨rfl, rfl⟩
  | x :: xs => by
    show RL C (.v (.int .u8 x) :: u8s xs) [] (.int .u8 x :: xs.map fun n => Value.int .u8 n)
    rw [RL]; exact ⟨[], [], _, _, rfl, rfl, by rw [R]; exact ⟨rfl, rfl⟩, RL_u8s C xs⟩
theorem sized_u8s (xs : List Int) : Sized 1 (u8s xs) := by
  intro e he
  obtain ⟨n, _, rfl⟩ := List.mem_map.1 he
  rfl
theorem noOL_u8s (c : Nat) (xs : List Int) : noOL [AV.sl c 1 (u8s xs)] = true := rfl

section
variable {H : Type} {enc : TypeId × Value → H} {P : Program} {W : World}

theorem read_bytes' {t e : TypeId} {v : Value} {x : DataW H × List MemPlace} {fuel : Nat} (ht : P.underlying t = some (.slice e)) (he : P.underlying e = some (.int .u8)) (hc : P.cellsOf e = 1)
    (hf : DataW.trod enc P W 0 (fun _ => true) true fuel t [v] = some x) :
    ∃ xs : List Int, xs.length ≤ maxLen ∧ Byt xs ∧ R (cin W [] fun _ => False) (.sl 1 1 (u8s xs)) [] v := by
  rcases open_ints ht he hc hf with ⟨hcs, hx⟩ | ⟨a, len, cap, zs, hcs, _, hl, hm, hz, hx, hcell, hwf⟩
  · simp at hcs
    subst hcs
    exact ⟨[], by simp, by intro x hx; simp at hx, by rw [R]; exact ⟨rfl, none, 0, rfl, Nat.le_refl _, .inl rfl⟩⟩
  · simp at hcs
    subst hcs
    simp at hz
    have hlen : (zs.take len).length = len := by simp; omega
    refine ⟨zs.take len, by omega, ?_, view_row (xs := (zs.take len).map fun n => .int .u8 n) hl (by simpa using hlen) (by simpa using hlen) ?_ (sized_u8s _) (by rw [flatE_u8s]; exact RL_u8s _ _)⟩
    · intro n hn
      have h1 := hwf n (List.mem_of_mem_take hn)
      have e1 : IntKind.u8.min = 0 := by decide
      have e2 : IntKind.u8.max = 255 := by decide
      simp [Lit.wf, e1, e2] at h1
      omega
    intro i v hi
    simp only [List.getElem?_map, Option.map_eq_some_iff] at hi
    obtain ⟨n, hn, rfl⟩ := hi
    have hi' : i < len := by
      have := (List.getElem?_eq_some_iff.1 hn).1
      omega
    rw [List.getElem?_take_of_lt hi'] at hn
    rw [hcell i (by omega)]
    simp [hn]

theorem read_bytes {t e : TypeId} {v : Value} {d : DataW H} {p : List MemPlace} {base : Nat} (ht : P.underlying t = some (.slice e)) (he : P.underlying e = some (.int .u8)) (hc : P.cellsOf e = 1)
    (hv : Value.okWide P W .any base t v) (h : DataW.Trod enc P W 0 (fun _ => true) true t v d p) :
    ∃ xs : List Int, xs.length ≤ maxLen ∧ Byt xs ∧ R (cin W [] fun _ => False) (.sl 1 1 (u8s xs)) [] v := by
  obtain ⟨a0, len, cap, rfl⟩ := okWide_slice ht hv
  obtain ⟨fuel, hf⟩ := h
  exact read_bytes' ht he hc hf

end
end Go.Proofs.Dev

namespace Go.Proofs.Dev

def manyOf : List Bool → Nat
  | [] => 0
  | b :: bs => (if b then 1 else 0) + manyOf bs

theorem manyOf_append : ∀ (a b : List Bool), manyOf (a ++ b) = manyOf a + manyOf b
  | [], b => by simp [manyOf]
  | x :: a, b => by simp [manyOf, manyOf_append a b]; omega

theorem manyOf_le : ∀ a : List Bool, manyOf a ≤ a.length
  | [] => by simp [manyOf]
  | x :: a => by have := manyOf_le a; cases x <;> simp [manyOf] <;> omega

theorem manyOf_take (bs : List Bool) (i : Nat) (h : i < bs.length) : manyOf (bs.take (i + 1)) = manyOf (bs.take i) + if atb bs i then 1 else 0 := by
  rw [List.take_succ_eq_append_getElem h, manyOf_append]; simp [manyOf, atb, h]

/-- A valid region. -/
def regB (W T : Int) (cs : List Bool) : Bool := decide (1 ≤ W ∧ W ≤ 6 ∧ 1 ≤ T ∧ T ≤ 6 ∧ (cs.length : Int) = W * T ∧ manyOf cs ≤ 24)

def stepI (W T cell way : Int) : Int :=
  if way = 1 ∧ cell % W < W - 1 then cell + 1 else
  if way = 2 ∧ cell / W < T - 1 then cell + W else
  if way = 3 ∧ 0 < cell % W then cell - 1 else
  if way = 4 ∧ 0 < cell / W then cell - W else -1

def backI (way : Int) : Int := (way + 1) % 4 + 1

def layAt (W T : Int) (cs : List Bool) (laid : List Int) (k : Int) : Bool :=
  decide (ati laid k = 0 ∨ (1 ≤ ati laid k ∧ ati laid k ≤ 4 ∧ atb cs k = true ∧ 0 ≤ stepI W T k (ati laid k) ∧ atb cs (stepI W T k (ati laid k)) = true ∧ ati laid (stepI W T k (ati laid k)) = backI (ati laid k)))

/-- Dominoes on a valid region. -/
def laysB (W T : Int) (cs : List Bool) (laid : List Int) : Bool := decide (laid.length = cs.length) && allB laid.length (fun k => layAt W T cs laid k)

def digAt (cs : List Bool) (ds : List Int) (k : Int) : Bool := if atb cs k then decide (0 ≤ ati ds k ∧ ati ds k ≤ 6) else decide (ati ds k = -1)
def digsB (cs : List Bool) (ds : List Int) : Bool := decide (ds.length = cs.length) && allB ds.length (fun k => digAt cs ds k)

def pairI (a b : Int) : Int := 7 * min a b + max a b
def pairsTo (W T : Int) (ds laid : List Int) (n : Nat) : List Int :=
  (List.range n).flatMap fun k : Nat => if ati laid k = 1 ∨ ati laid k = 2 then [pairI (ati ds k) (ati ds (stepI W T k (ati laid k)))] else []
def pairsI (W T : Int) (ds laid : List Int) : List Int := pairsTo W T ds laid laid.length

theorem pairsTo_succ (W T : Int) (ds laid : List Int) (n : Nat) : pairsTo W T ds laid (n + 1) = pairsTo W T ds laid n ++ if ati laid n = 1 ∨ ati laid n = 2 then [pairI (ati ds n) (ati ds (stepI W T n (ati laid n)))] else [] := by
  simp [pairsTo, List.range_succ]
theorem pairsTo_length (W T : Int) (ds laid : List Int) : ∀ n, (pairsTo W T ds laid n).length ≤ n
  | 0 => by simp [pairsTo]
  | n + 1 => by
    have := pairsTo_length W T ds laid n
    rw [pairsTo_succ]; split <;> simp <;> omega

theorem regB_W {W T : Int} {cs : List Bool} (h : regB W T cs = true) : 1 ≤ W ∧ W ≤ 6 ∧ 1 ≤ T ∧ T ≤ 6 ∧ (cs.length : Int) = W * T ∧ manyOf cs ≤ 24 := by simpa [regB] using h

theorem regB_len {W T : Int} {cs : List Bool} (h : regB W T cs = true) : cs.length ≤ 36 := by
  obtain ⟨h1, h2, h3, h4, h5, _⟩ := regB_W h
  have : W * T ≤ 6 * 6 := Int.mul_le_mul h2 h4 (by omega) (by omega)
  omega

/-- A column and a row of a cell. -/
theorem cell_xy {W T : Int} {k : Int} (hW : 1 ≤ W) (h0 : 0 ≤ k) (h1 : k < W * T) : 0 ≤ k % W ∧ k % W < W ∧ 0 ≤ k / W ∧ k / W < T ∧ k = k / W * W + k % W := by
  refine ⟨Int.emod_nonneg _ (by omega), Int.emod_lt_of_pos _ (by omega), Int.ediv_nonneg h0 (by omega), ?_, ?_⟩
  · exact Int.ediv_lt_of_lt_mul (by omega) (by rw [Int.mul_comm]; exact h1)
  · have := Int.mul_ediv_add_emod k W; rw [Int.mul_comm] at this; omega

theorem row_lt {W T x y : Int} (hW : 1 ≤ W) (hx : 0 ≤ x) (hx2 : x < W) (hy : 0 ≤ y) (hy2 : y < T) : 0 ≤ y * W + x ∧ y * W + x < W * T := by
  have h1 : 0 ≤ y * W := Int.mul_nonneg hy (by omega)
  have h2 : (y + 1) * W ≤ T * W := Int.mul_le_mul_of_nonneg_right (by omega) (by omega)
  rw [Int.add_mul, Int.mul_comm T W] at h2
  omega

theorem stepI_range {W T k way : Int} (hW : 1 ≤ W) (h0 : 0 ≤ k) (h1 : k < W * T) : stepI W T k way = -1 ∨ (0 ≤ stepI W T k way ∧ stepI W T k way < W * T ∧ 1 ≤ way ∧ way ≤ 4) := by
  obtain ⟨a1, a2, a3, a4, a5⟩ := cell_xy hW h0 h1
  unfold stepI
  split
  · rename_i h
    right
    have := row_lt (T := T) hW (x := k % W + 1) (y := k / W) (by omega) (by omega) a3 a4
    omega
  split
  · rename_i h
    right
    have := row_lt (T := T) hW (x := k % W) (y := k / W + 1) (by omega) (by omega) (by omega) (by omega)
    rw [Int.add_mul] at this
    omega
  split
  · rename_i h
    right
    have := row_lt (T := T) hW (x := k % W - 1) (y := k / W) (by omega) (by omega) a3 a4
    omega
  split
  · rename_i h
    right
    have := row_lt (T := T) hW (x := k % W) (y := k / W - 1) (by omega) (by omega) (by omega) (by omega)
    rw [Int.sub_mul] at this
    omega
  · left; rfl

end Go.Proofs.Dev

namespace Go.Proofs.Dev

def srt (xs : List Int) : List Int := xs.mergeSort fun x y => decide (x ≤ y)
def onceB (xs : List Int) : Bool := decide xs.Nodup

theorem srt_length (xs : List Int) : (srt xs).length = xs.length := by simp [srt]
theorem srt_perm (xs : List Int) : List.Perm (srt xs) xs := List.mergeSort_perm xs _
theorem srt_sorted (xs : List Int) : List.Pairwise (· ≤ ·) (srt xs) := by
  have h := List.pairwise_mergeSort (le := fun x y : Int => decide (x ≤ y)) (fun a b c h1 h2 => by simp at *; omega) (fun a b => by simp; omega) xs
  exact h.imp (by simp)

theorem sorted_once {ys : List Int} (hs : List.Pairwise (· ≤ ·) ys) : (∀ j, j < ys.length → Lib.keeps ys.toArray j = true) ↔ ys.Nodup := by
  constructor
  · intro h
    refine List.pairwise_iff_getElem.2 fun i j hi hj hij => ?_
    have h1 := h j hj
    simp only [Lib.keeps, decide_eq_true_eq] at h1
    rcases h1 with h1 | h1
    · omega
    · have e1 : ys.toArray[j]! = ys[j] := by simp [hj]
      have e2 : ys.toArray[j - 1]! = ys[j - 1]'(by omega) := by simp [show j - 1 < ys.length by omega]
      rw [e1, e2] at h1
      have h2 := List.pairwise_iff_getElem.1 hs (j - 1) j (by omega) hj (by omega)
      have h3 : ys[i] ≤ ys[j - 1]'(by omega) := by
        rcases Nat.lt_or_ge i (j - 1) with h4 | h4
        · exact List.pairwise_iff_getElem.1 hs i (j - 1) hi (by omega) h4
        · have : i = j - 1 := by omega
          subst this; exact Int.le_refl _
      omega
  · intro h j hj
    simp only [Lib.keeps, decide_eq_true_eq]
    rcases Nat.eq_zero_or_pos j with h0 | h0
    · exact .inl h0
    · right
      have e1 : ys.toArray[j]! = ys[j] := by simp [hj]
      have e2 : ys.toArray[j - 1]! = ys[j - 1]'(by omega) := by simp [show j - 1 < ys.length by omega]
      rw [e1, e2]
      exact fun e => List.pairwise_iff_getElem.1 h (j - 1) j (by omega) hj (by omega) e.symm

theorem compact_length (ys : List Int) : (Lib.compact ys).length = ys.length ↔ ∀ j, j < ys.length → Lib.keeps ys.toArray j = true := by
  unfold Lib.compact Lib.compactUpTo
  rw [List.length_map]
  constructor
  · intro h j hj
    have h1 := (List.length_filter_eq_length_iff (p := Lib.keeps ys.toArray) (l := List.range ys.length)).1 (by rw [h, List.length_range])
    exact h1 j (by simpa using hj)
  · intro h
    rw [(List.length_filter_eq_length_iff (p := Lib.keeps ys.toArray) (l := List.range ys.length)).2 (fun j hj => h j (by simpa using hj)), List.length_range]

theorem compact_le (ys : List Int) : (Lib.compact ys).length ≤ ys.length := by
  unfold Lib.compact Lib.compactUpTo
  rw [List.length_map]
  exact Nat.le_trans (List.length_filter_le _ _) (by simp)

/-- Sorted and compacted a list is as long as before exactly if nothing comes twice. -/
theorem once_sorted (xs : List Int) : (Lib.compact (srt xs)).length = xs.length ↔ xs.Nodup := by
  rw [← srt_length xs, compact_length, sorted_once (srt_sorted xs)]
  exact (srt_perm xs).nodup_iff

theorem once_take_succ (xs : List Int) (i : Nat) (h : i < xs.length) : (xs.take (i + 1)).Nodup ↔ (xs.take i).Nodup ∧ ¬ ati xs i ∈ xs.take i := by
  have e : ati xs i = xs[i] := by simp [ati, h]
  rw [List.take_succ_eq_append_getElem h, e, List.nodup_append]
  simp
  intro _
  constructor
  · intro h1 h2; exact h1 _ h2 rfl
  · intro h1 a h2 h3; subst h3; exact h1 h2

end Go.Proofs.Dev

namespace Go.Proofs.Dev
open Go.Sort

abbrev encInt : Int → Value := Value.int .i64

theorem arr_room {w : World} {n : Nat} {os : Array Obj} {blk off : Nat} {d0 d : Array Int} (hH : Holds encInt w blk off d0) (hs : d.size = d0.size) (b p k : Nat) (h : Room w b p k) : Room (grow (putRow encInt (Go.Sort.ahead w n) blk off d) os) b p k := by
  intro j hj
  obtain ⟨⟨u, hu⟩, hf⟩ := h j hj
  have hlt : b < w.heap.size := block_lt_of_cell hu
  have hsz : (putRow encInt (Go.Sort.ahead w n) blk off d).heap.size = w.heap.size := by simp [putRow, mapBlock, Go.Sort.ahead]
  rw [cell?_grow _ _ _ (by rw [hsz]; exact hlt), frozen?_grow _ _ _ (by rw [hsz]; exact hlt)]
  refine ⟨?_, by unfold putRow; rw [frozen?_mapBlock]; exact hf⟩
  by_cases ho : b ≠ blk ∨ p + j < off ∨ off + d.size ≤ p + j
  · rw [cell?_putRow_other encInt _ blk off d ⟨b, p + j, none⟩ ho]
    exact ⟨u, hu⟩
  · have hb : b = blk := by
      rcases Nat.lt_trichotomy b blk with h1 | h1 | h1
      · exact absurd (.inl (by omega)) ho
      · exact h1
      · exact absurd (.inl (by omega)) ho
    subst hb
    have h2 : off ≤ p + j ∧ p + j < off + d.size := ⟨by
      rcases Nat.lt_or_ge (p + j) off with h1 | h1
      · exact absurd (.inr (.inl h1)) ho
      · exact h1, by
      rcases Nat.lt_or_ge (p + j) (off + d.size) with h1 | h1
      · exact h1
      · exact absurd (.inr (.inr h1)) ho⟩
    have h3 := (holds_putRow encInt (Go.Sort.ahead w n) b off d0 d (holds_ahead encInt w n b off d0 hH) hs) (p + j - off) (by omega)
    rw [show off + (p + j - off) = p + j by omega] at h3
    exact ⟨_, h3.1⟩

theorem arr_kept {w : World} {n : Nat} {os : Array Obj} {blk off : Nat} {d0 d : Array Int} (hH : Holds encInt w blk off d0) (hs : d.size = d0.size) : Kept w.heap.size [blk] w (grow (putRow encInt (Go.Sort.ahead w n) blk off d) os) := by
  have hsz : (putRow encInt (Go.Sort.ahead w n) blk off d).heap.size = w.heap.size := by simp [putRow, mapBlock, Go.Sort.ahead]
  refine ⟨rfl, rfl, rfl, ?_, ?_, arr_room hH hs⟩
  · simp only [grow, Array.size_append]; omega
  · intro k hk hn
    rw [heap_grow_old _ _ (by rw [hsz]; exact hk)]
    simp only [putRow, mapBlock, Go.Sort.ahead, Array.getElem?_modify]
    rw [if_neg (fun e => hn (by simp [e]))]

theorem arr_cells {w : World} {n : Nat} {os : Array Obj} {blk off : Nat} {d0 d : Array Int} (hb : blk < w.heap.size) (hH : Holds encInt w blk off d0) (hs : d.size = d0.size) : Cells (grow (putRow encInt (Go.Sort.ahead w n) blk off d) os) blk off (d.toList.map encInt) := by
  intro j u hj
  have hsz : (putRow encInt (Go.Sort.ahead w n) blk off d).heap.size = w.heap.size := by simp [putRow, mapBlock, Go.Sort.ahead]
  rw [cell?_grow _ _ _ (by rw [hsz]; exact hb)]
  simp only [List.getElem?_map, Option.map_eq_some_iff, Array.getElem?_toList] at hj
  obtain ⟨x, hx, rfl⟩ := hj
  obtain ⟨h1, h2⟩ := Array.getElem?_eq_some_iff.1 hx
  have h3 := (holds_putRow encInt (Go.Sort.ahead w n) blk off d0 d (holds_ahead encInt w n blk off d0 hH) hs) j h1
  rw [h3.1, getElem!_pos d j h1, h2]

theorem RL_ints_inv {C : Ctx} : ∀ {xs : List Int} {S : List Nat} {us : List Value}, RL C (ints xs) S us → S = [] ∧ us = xs.map encInt
  | [], S, us, h => by
    have h' : RL C [] S us := h
    rw [RL] at h'
    simpa using h'
  | x :: xs, S, us, h => by
    have h' : RL C (.v (.int .i64 x) :: ints xs) S us := h
    rw [RL] at h'
    obtain ⟨S1, S2, u, us', rfl, rfl, h1, h2⟩ := h'
    rw [R] at h1
    obtain ⟨rfl, rfl⟩ := h1
    obtain ⟨rfl, rfl⟩ := RL_ints_inv h2
    exact ⟨rfl, rfl⟩

/-- A row of numbers, lent: its place. -/
theorem lent_ints {w : World} {S : List Nat} {forb : Nat → Prop} {zs : List Int} {us : List Value} (hr : RL (cin w S forb) [.os 1 (ints zs)] S us) (hz : zs ≠ []) :
    ∃ b p cap, us = [.slice (some ⟨b, p, none⟩) zs.length cap] ∧ zs.length ≤ cap ∧ S = [b] ∧ b < w.heap.size ∧ Room w b p cap ∧ Holds encInt w b p zs.toArray := by
  rw [RL] at hr
  obtain ⟨S1, S2, u, us', hS, rfl, h1, h2⟩ := hr
  rw [RL] at h2
  obtain ⟨rfl, rfl⟩ := h2
  rw [List.append_nil] at hS
  subst hS
  rw [R] at h1
  obtain ⟨a, cap, rfl, hc, h1⟩ := h1
  rw [ints_length] at hc
  rcases h1 with ⟨h0, _⟩ | ⟨h0, b, p, vs, S', rfl, rfl, hb, hroom, hcells, _, hrl⟩
  · exact absurd (List.eq_nil_of_length_eq_zero (by omega)) hz
  · rw [flatE_ints] at hrl
    obtain ⟨rfl, rfl⟩ := RL_ints_inv hrl
    rw [Nat.mul_one] at hroom
    refine ⟨b, p, cap, by rw [ints_length], hc, rfl, hb, hroom, ?_⟩
    intro j hj
    have hj' : j < zs.length := by simpa using hj
    refine ⟨?_, (hroom j (by omega)).2⟩
    rw [getElem!_pos zs.toArray j hj]
    exact hcells j _ (by simp [hj'])

/-- A slice whose numbers are put in another order, or others, in place. -/
theorem arr_sound {P : Program} {f : Nat} {zs ys : List Int} (hl : ys.length = zs.length) (hz : zs ≠ [])
    (hc : ∀ (blk off cap : Nat) (w : World), Holds encInt w blk off zs.toArray → blk < w.heap.size →
      Calls P f #[.slice (some ⟨blk, off, none⟩) zs.length cap] w fun e w' => e = .returned (.tuple #[]) ∧ ∃ n os, w' = grow (putRow encInt (Go.Sort.ahead w n) blk off ys.toArray) os) :
    SoundAt P f [.os 1 (ints zs)] (.tup []) [.os 1 (ints ys)] := by
  intro w forb us S hr hnd hlt hforb
  obtain ⟨b, p, cap, rfl, hcap, rfl, hb, hroom, hH⟩ := lent_ints hr hz
  refine (hc b p cap w hH hb).mono ?_
  rintro e w' ⟨rfl, n, os, rfl⟩
  have hk := arr_kept (n := n) (os := os) (d := ys.toArray) hH (by simp [hl])
  have hsz : b < (grow (putRow encInt (Go.Sort.ahead w n) b p ys.toArray) os).heap.size := Nat.lt_of_lt_of_le hb hk.size
  refine ⟨_, [b], rfl, ?_, by simp, by simpa using hsz, hk⟩
  rw [RL]
  refine ⟨[], [b], _, _, rfl, rfl, by rw [R]; exact ⟨[], rfl, by rw [RL]; exact ⟨rfl, rfl⟩⟩, ?_⟩
  rw [RL]
  refine ⟨[b], [], _, _, rfl, rfl, ?_, by rw [RL]; exact ⟨rfl, rfl⟩⟩
  rw [R]
  refine ⟨some ⟨b, p, none⟩, cap, by rw [ints_length, hl], by rw [ints_length]; omega, .inr ⟨?_, b, p, ys.map encInt, [], rfl, rfl, hsz, ?_, ?_, sized_ints _, ?_⟩⟩
  · have : 0 < zs.length := List.length_pos_iff.2 hz
    omega
  · rw [Nat.mul_one]; exact hk.room _ _ _ hroom
  · have := arr_cells (n := n) (os := os) (d := ys.toArray) hb hH (by simp [hl])
    simpa [cout] using this
  · rw [flatE_ints]; exact RL_ints _ _

/-- A slice of which a beginning is left, in place. -/
theorem arr_pref {P : Program} {f : Nat} {zs ys rest : List Int} (hl : ys.length + rest.length = zs.length) (hz : zs ≠ [])
    (hc : ∀ (blk off cap : Nat) (w : World), Holds encInt w blk off zs.toArray → blk < w.heap.size → zs.length ≤ cap →
      Calls P f #[.slice (some ⟨blk, off, none⟩) zs.length cap] w fun e w' => e = .returned (.slice (some ⟨blk, off, none⟩) ys.length cap) ∧ ∃ n, w' = putRow encInt (Go.Sort.ahead w n) blk off (ys ++ rest).toArray) :
    SoundAt P f [.os 1 (ints zs)] (.os 1 (ints ys)) [.bot] := by
  intro w forb us S hr hnd hlt hforb
  obtain ⟨b, p, cap, rfl, hcap, rfl, hb, hroom, hH⟩ := lent_ints hr hz
  refine (hc b p cap w hH hb hcap).mono ?_
  rintro e w' ⟨rfl, n, rfl⟩
  have hg : putRow encInt (Go.Sort.ahead w n) b p (ys ++ rest).toArray = grow (putRow encInt (Go.Sort.ahead w n) b p (ys ++ rest).toArray) #[] := by rw [grow_empty]
  rw [hg]
  have hk := arr_kept (n := n) (os := #[]) (d := (ys ++ rest).toArray) hH (by simp [hl])
  have hsz : b < (grow (putRow encInt (Go.Sort.ahead w n) b p (ys ++ rest).toArray) #[]).heap.size := Nat.lt_of_lt_of_le hb hk.size
  refine ⟨_, [b], rfl, ?_, by simp, by simpa using hsz, hk⟩
  rw [RL]
  refine ⟨[b], [], _, _, rfl, rfl, ?_, by rw [RL]; exact ⟨[], [], _, _, rfl, rfl, by rw [R], by rw [RL]; exact ⟨rfl, rfl⟩⟩⟩
  rw [R]
  refine ⟨some ⟨b, p, none⟩, cap, by rw [ints_length], by rw [ints_length]; omega, .inr ⟨?_, b, p, ys.map encInt, [], rfl, rfl, hsz, ?_, ?_, sized_ints _, ?_⟩⟩
  · have : 0 < zs.length := List.length_pos_iff.2 hz
    omega
  · rw [Nat.mul_one]; exact hk.room _ _ _ hroom
  · have := arr_cells (n := n) (os := #[]) (d := (ys ++ rest).toArray) hb hH (by simp [hl])
    simp only [List.map_append] at this
    intro j u hj
    exact this j u (by rw [List.getElem?_append_left (List.getElem?_eq_some_iff.1 hj).1]; exact hj)
  · rw [flatE_ints]; exact RL_ints _ _

end Go.Proofs.Dev

namespace Go.Proofs.Dev

theorem xy_of {W x y : Int} (hx : 0 ≤ x) (hx2 : x < W) : (y * W + x) % W = x ∧ (y * W + x) / W = y := by
  have hW : W ≠ 0 := by omega
  rw [Int.add_comm (y * W) x]
  rw [Int.add_mul_emod_self_right, Int.emod_eq_of_lt hx hx2, Int.add_mul_ediv_right _ _ hW, Int.ediv_eq_zero_of_lt hx hx2, Int.zero_add]
  exact ⟨rfl, rfl⟩

theorem backI_back {w : Int} (h1 : 1 ≤ w) (h4 : w ≤ 4) : backI (backI w) = w ∧ 1 ≤ backI w ∧ backI w ≤ 4 := by
  unfold backI; omega

/-- There and back. -/
theorem step_back {W T k way : Int} (hW : 1 ≤ W) (h0 : 0 ≤ k) (h1 : k < W * T) (ht : 0 ≤ stepI W T k way) :
    stepI W T (stepI W T k way) (backI way) = k ∧ 1 ≤ way ∧ way ≤ 4 ∧ stepI W T k way ≠ k ∧ stepI W T k way < W * T := by
  have hr := stepI_range (T := T) (way := way) hW h0 h1
  obtain ⟨a1, a2, a3, a4, a5⟩ := cell_xy hW h0 h1
  rcases hr with hr | ⟨_, hlt, hw1, hw4⟩
  · omega
  refine ⟨?_, hw1, hw4, ?_, hlt⟩
  · generalize hx : k % W = x at *
    generalize hy : k / W = y at *
    have hk : k = y * W + x := a5
    have hw : way = 1 ∨ way = 2 ∨ way = 3 ∨ way = 4 := by omega
    rcases hw with rfl | rfl | rfl | rfl
    · have e : stepI W T k 1 = k + 1 := by
        unfold stepI at ht ⊢
        simp [hx] at ht ⊢
        split at ht
        · intro; omega
        · omega
      have hx1 : x < W - 1 := by
        unfold stepI at ht; simp [hx] at ht
        split at ht
        · assumption
        · omega
      have c := xy_of (W := W) (x := x + 1) (y := y) (by omega) (by omega)
      rw [e, show k + 1 = y * W + (x + 1) by omega]
      unfold stepI backI
      simp [c.1]
      rw [if_pos (by omega)]; omega
    · have hy1 : y < T - 1 := by
        unfold stepI at ht; simp [hy] at ht
        split at ht
        · assumption
        · omega
      have e : stepI W T k 2 = k + W := by unfold stepI; simp [hy]; intro h; omega
      have c := xy_of (W := W) (x := x) (y := y + 1) (by omega) (by omega)
      have hm : (y + 1) * W = y * W + W := by rw [Int.add_mul, Int.one_mul]
      rw [e, show k + W = (y + 1) * W + x by omega]
      unfold stepI backI
      simp [c.2]
      rw [if_pos (by omega)]; omega
    · have hx1 : 0 < x := by
        unfold stepI at ht; simp [hx] at ht
        split at ht
        · assumption
        · omega
      have e : stepI W T k 3 = k - 1 := by unfold stepI; simp [hx]; intro h; omega
      have c := xy_of (W := W) (x := x - 1) (y := y) (by omega) (by omega)
      rw [e, show k - 1 = y * W + (x - 1) by omega]
      unfold stepI backI
      simp [c.1]
      omega
    · have hy1 : 0 < y := by
        unfold stepI at ht; simp [hy] at ht
        split at ht
        · assumption
        · omega
      have e : stepI W T k 4 = k - W := by unfold stepI; simp [hy]; intro h; omega
      have c := xy_of (W := W) (x := x) (y := y - 1) (by omega) (by omega)
      have hm : (y - 1) * W = y * W - W := by rw [Int.sub_mul, Int.one_mul]
      rw [e, show k - W = (y - 1) * W + x by omega]
      unfold stepI backI
      simp [c.2]
      omega
  · unfold stepI
    split
    · omega
    split
    · omega
    split
    · omega
    split
    · omega
    · omega

def freeB (W T : Int) (cs : List Bool) (ls : List Int) (cell way : Int) : Bool :=
  decide (0 ≤ cell ∧ cell < cs.length ∧ 0 ≤ stepI W T cell way ∧ atb cs cell = true ∧ atb cs (stepI W T cell way) = true ∧ ati ls cell = 0 ∧ ati ls (stepI W T cell way) = 0)
def layI (W T : Int) (ls : List Int) (cell way : Int) : List Int := (ls.set cell.toNat way).set (stepI W T cell way).toNat (backI way)

theorem layI_length (W T : Int) (ls : List Int) (cell way : Int) : (layI W T ls cell way).length = ls.length := by simp [layI]

theorem ati_set {xs : List Int} {i k : Nat} {v : Int} (h : i < xs.length) : ati (xs.set i v) k = if k = i then v else ati xs k := by
  simp only [ati, Int.toNat_natCast, List.getD_eq_getElem?_getD, List.getElem?_set]
  by_cases e : i = k
  · subst e; simp [h]
  · rw [if_neg e, if_neg (fun e2 => e e2.symm)]

theorem lay_ok {W T : Int} {cs : List Bool} {ls : List Int} {cell way : Int} (hr : regB W T cs = true) (hl : laysB W T cs ls = true) (hf : freeB W T cs ls cell way = true) : laysB W T cs (layI W T ls cell way) = true := by
  obtain ⟨w1, w2, t1, t2, l1, _⟩ := regB_W hr
  simp only [freeB, decide_eq_true_eq] at hf
  obtain ⟨f0, f1, f2, f3, f4, f5, f6⟩ := hf
  obtain ⟨b1, b2, b3, b4, b5⟩ := step_back (T := T) w1 f0 (by omega) f2
  obtain ⟨k1, k2, k3⟩ := backI_back b2 b3
  simp only [laysB, Bool.and_eq_true, decide_eq_true_eq, allB_iff, layI_length] at hl ⊢
  obtain ⟨hlen, hall⟩ := hl
  refine ⟨hlen, fun k hk => ?_⟩
  have hc : cell.toNat < ls.length := by omega
  have hto : (stepI W T cell way).toNat < ls.length := by omega
  have at_ : ∀ j : Nat, ati (layI W T ls cell way) j = if j = (stepI W T cell way).toNat then backI way else if j = cell.toNat then way else ati ls j := by
    intro j
    unfold layI
    rw [ati_set (by simpa using hto), ati_set hc]
  have atI : ∀ j : Int, 0 ≤ j → ati (layI W T ls cell way) j = if j = stepI W T cell way then backI way else if j = cell then way else ati ls j := by
    intro j hj
    have := at_ j.toNat
    rw [show ((j.toNat : Nat) : Int) = j by omega] at this
    rw [this]
    by_cases e1 : j = stepI W T cell way
    · rw [if_pos (by omega), if_pos e1]
    · rw [if_neg (by omega), if_neg e1]
      by_cases e2 : j = cell
      · rw [if_pos (by omega), if_pos e2]
      · rw [if_neg (by omega), if_neg e2]
  have hkI := atI k (by omega)
  simp only [layAt, decide_eq_true_eq]
  by_cases e1 : (k : Int) = stepI W T cell way
  · right
    rw [if_pos e1] at hkI
    rw [hkI, e1, b1]
    refine ⟨k2, k3, f4, f0, f3, ?_⟩
    rw [atI cell f0, if_neg (fun e => b4 e.symm), if_pos rfl, k1]
  by_cases e2 : (k : Int) = cell
  · right
    rw [if_neg e1, if_pos e2] at hkI
    rw [hkI, e2]
    refine ⟨b2, b3, f3, f2, f4, ?_⟩
    rw [atI _ f2, if_pos rfl]
  rw [if_neg e1, if_neg e2] at hkI
  rw [hkI]
  have := hall k (by omega)
  simp only [layAt, decide_eq_true_eq] at this
  rcases this with h | ⟨g1, g2, g3, g4, g5, g6⟩
  · left; exact h
  right
  refine ⟨g1, g2, g3, g4, g5, ?_⟩
  have hb := (backI_back g1 g2).2
  rw [atI _ g4, if_neg (fun e => by rw [e] at g6; omega), if_neg (fun e => by rw [e] at g6; omega)]
  exact g6

end Go.Proofs.Dev
