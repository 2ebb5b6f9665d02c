/- Contracts of the functions of the program over slots and rows, each proved against the program itself; no condition beyond those that each theorem names. -/
import Derived.Test.YtfkmfobbgoflgaaGreatDoorAG
import Derived.ProofKit
import Derived.Lib.SmallJoins
import Derived.Deep.Grids
import Derived.Lib.Strings
import Derived.SliceStrings
import Derived.ChangeVars
import Derived.LaidMore
import Derived.Lay
import Derived.MakeChecks
import Derived.Shelf.Vars
import Derived.Lib.SlicesCompact
import Derived.Sort.Row
import Derived.Sort.Grow
set_option linter.unusedSimpArgs false
set_option linter.unusedVariables false
set_option maxRecDepth 100000
namespace Go.Proofs.Dev
def AB (xs : List Int) : List AV := xs.map fun n => .v (.int .i64 n)
def AC (bs : List Bool) : List AV := bs.map fun b => .v (.bool b)
def ati (xs : List Int) (i : Int) : Int := xs.getD i.toNat 0
def atb (bs : List Bool) (i : Int) : Bool := bs.getD i.toNat false
@[simp] theorem GO (xs : List Int) : (AB xs).length = xs.length := by simp [AB]
@[simp] theorem gX (xs : List Bool) : (AC xs).length = xs.length := by simp [AC]
@[simp] theorem nB : AB [] = [] := rfl
@[simp] theorem lm : AC [] = [] := rfl
theorem LA (a b : List Int) : AB (a ++ b) = AB a ++ AB b := by simp [AB]
@[simp] theorem iy (xs : List Int) : (AB xs = []) = (xs = []) := by cases xs <;> simp [AB]
@[simp] theorem gY (xs : List Bool) : (AC xs = []) = (xs = []) := by cases xs <;> simp [AC]
theorem iz (xs : List Int) (i : Nat) : ati xs (i : Int) = xs.getD i 0 := by simp [ati]
theorem i6 (xs : List Bool) (i : Nat) : atb xs (i : Int) = xs.getD i false := by simp [atb]
theorem fL {xs : List Int} {i : Int} (h1 : i.toNat < xs.length) : (AB xs)[i.toNat]? = some (.v (.int .i64 (ati xs i))) := by simp [AB, ati, h1]
theorem cZ {xs : List Bool} {i : Int} (h1 : i.toNat < xs.length) : (AC xs)[i.toNat]? = some (.v (.bool (atb xs i))) := by simp [AC, atb, h1]
theorem ca {c : Nat} {k : IntKind} {xs : List Int} {i : Int} (h0 : 0 ≤ i) (h1 : i < xs.length) : D2 1 (.sl c 1 (AB xs)) (.v (.int k i)) = some (.vp c [.v (.int .i64 (ati xs i))] 0) := by
 simp [D2, h0, fL (xs := xs) (i := i) (by omega)]
theorem bF {c : Nat} {k : IntKind} {xs : List Bool} {i : Int} (h0 : 0 ≤ i) (h1 : i < xs.length) : D2 1 (.sl c 1 (AC xs)) (.v (.int k i)) = some (.vp c [.v (.bool (atb xs i))] 0) := by
 simp [D2, h0, cZ (xs := xs) (i := i) (by omega)]
@[simp] theorem fM {c : Nat} {k : IntKind} {xs : List Int} {i : Int} : D2 1 (.sl c 1 (AB xs)) (.v (.int k i)) = if 0 ≤ i ∧ i < xs.length then some (.vp c [.v (.int .i64 (ati xs i))] 0) else none := by
  by_cases h : 0 ≤ i ∧ i < xs.length
  ·rw [if_pos h, ca h.1 h.2]
  ·rw [if_neg h]
   by_cases h0 : 0 ≤ i
   ·have : ¬ i.toNat < xs.length := by omega
    simp [D2, h0, AB, this]
   ·simp [D2, h0]
@[simp] theorem eY {c : Nat} {k : IntKind} {xs : List Bool} {i : Int} : D2 1 (.sl c 1 (AC xs)) (.v (.int k i)) = if 0 ≤ i ∧ i < xs.length then some (.vp c [.v (.bool (atb xs i))] 0) else none := by
  by_cases h : 0 ≤ i ∧ i < xs.length
  ·rw [if_pos h, bF h.1 h.2]
  ·rw [if_neg h]
   by_cases h0 : 0 ≤ i
   ·have : ¬ i.toNat < xs.length := by omega
    simp [D2, h0, AC, this]
   ·simp [D2, h0]
@[simp] theorem i7 {sz id off n : Nat} {k : IntKind} {i : Int} : D2 sz (.ls sz id off n) (.v (.int k i)) = if 0 ≤ i ∧ i < n then some (.lp sz id (off + i.toNat) 0) else none := by
  simp [D2]
@[simp] theorem fN (c : Nat) : ∀ xs : List Int, vwL c (AB xs) = AB xs
  | [] => rfl
  | x :: xs => by show vw c _ :: vwL c (AB xs) = _ :: AB xs; rw [fN c xs]; rfl
@[simp] theorem cb (c : Nat) : ∀ xs : List Bool, vwL c (AC xs) = AC xs
  | [] => rfl
  | x :: xs => by show vw c _ :: vwL c (AC xs) = _ :: AC xs; rw [cb c xs]; rfl
theorem Em (n : Nat) (xs : List Int) : (AB xs).take n = AB (xs.take n) := by simp [AB]
theorem bG (n : Nat) (xs : List Bool) : (AC xs).take n = AC (xs.take n) := by simp [AC]
@[simp] theorem AD (xs : List Int) : (AB xs).take xs.length = AB xs := by rw [Em, List.take_length]
@[simp] theorem U5 (xs : List Bool) : (AC xs).take xs.length = AC xs := by rw [bG, List.take_length]
@[simp] theorem bH : ∀ xs : List Int, KM (AB xs) = true
  | [] => rfl
  | x :: xs => by show (R3 (.v (.int .i64 x)) && KM (AB xs)) = true; rw [bH xs]; rfl
@[simp] theorem Y8 : ∀ xs : List Bool, KM (AC xs) = true
  | [] => rfl
  | x :: xs => by show (R3 (.v (.bool x)) && KM (AC xs)) = true; rw [Y8 xs]; rfl
@[simp] theorem fO : ∀ xs : List Int, okL (AB xs) = true
  | [] => rfl
  | x :: xs => by show (okE (.v (.int .i64 x)) && okL (AB xs)) = true; rw [fO xs]; rfl
@[simp] theorem cc : ∀ xs : List Bool, okL (AC xs) = true
  | [] => rfl
  | x :: xs => by show (okE (.v (.bool x)) && okL (AC xs)) = true; rw [cc xs]; rfl
theorem EP (xs : List Int) (i : Nat) (x : Int) : (AB xs).set i (.v (.int .i64 x)) = AB (xs.set i x) := by simp [AB, List.map_set]
theorem X7 (xs : List Bool) (i : Nat) (x : Bool) : (AC xs).set i (.v (.bool x)) = AC (xs.set i x) := by simp [AC, List.map_set]
theorem aA (n : Nat) (x : Int) : List.replicate n (.v (.int .i64 x)) = AB (List.replicate n x) := by simp [AB]
theorem cd (n : Nat) (x : Bool) : List.replicate n (.v (.bool x)) = AC (List.replicate n x) := by simp [AC]
attribute [simp] mW amk Zw cK Xs okE aj R2 ast ak setL mV Zr U3 AG eq en eo gL TM mX Xq BE V0 okL KM R3 Nt jz rv rvL WW MO RF rd rdL rd0 rd0L iX vw vwL SN thawL an Value.oneCell' WU Yv mY
theorem AA {P : Program} {K : ES → AH → Prop} {E : ES} {H : AH} {f : Nat} {ms : List Bool} {avs : List AV} {dst : Option Nat} {ts : List AV} {r : AV} {ups : List AV} (hs : SoundAt P f ts r ups)
  (h : ∃ ks, WW H avs ms = some ks ∧ ks.Nodup ∧ MO H (AG ks H) ks.isEmpty avs ms = some ts ∧ ∃ p, RF avs ms ups (Hu r H.length).2.2 = some p ∧
   K (Ec (if ks.isEmpty then E else B9 E) dst (Hu r H.length).1) (B8 ((Hu r H.length).2.1 ++ p.1) (SN (p.2 - H.length) (AG ks (if ks.isEmpty then H else BE H))))) : JC P f ms avs E H dst K := by
 obtain ⟨ks, h1, h2, h3, p, h4, h5⟩ := h
 exact ⟨ks, h1, h2, ts, h3, _, hs.set, by rintro _ _ ⟨rfl, rfl⟩; exact ⟨p, h4, h5⟩⟩
def U6 (n : Nat) (p : Nat → Bool) : Bool := (List.range n).all p
theorem Gs (p : Nat → Bool) : U6 0 p = true := rfl
theorem Gt (n : Nat) (p : Nat → Bool) : U6 (n + 1) p = (U6 n p && p n) := by simp [U6, List.range_succ]
theorem Co (n : Nat) (p : Nat → Bool) : U6 n p = true ↔ ∀ k, k < n → p k = true := by simp [U6]
theorem GQ {n k : Nat} {p : Nat → Bool} (hk : k < n) (h : p k = false) : U6 n p = false := by
 cases he : U6 n p with
 | false => rfl
 | true => rw [Co] at he; rw [he k hk] at h; cases h
theorem Y9 {C : Ctx} : ∀ (n : Nat) {S : List Nat} {us : List Value}, RL C (List.replicate n .bot) S us → S = [] ∧ ∀ C', RL C' (List.replicate n .bot) [] us
 | 0, S, us, h => by
   rw [List.replicate_zero, RL] at h
   exact ⟨h.1, fun C' => by rw [List.replicate_zero, RL]; exact ⟨rfl, h.2⟩⟩
 | n + 1, S, us, h => by
   rw [List.replicate_succ, RL] at h
   obtain ⟨S1, S2, u, us', rfl, rfl, h1, h2⟩ := h
   rw [R] at h1
   obtain ⟨h3, h4⟩ := Y9 n h2
   refine ⟨by rw [h1, h3]; rfl, fun C' => ?_⟩
   rw [List.replicate_succ, RL]
   exact ⟨[], [], u, us', rfl, rfl, by rw [R], h4 C'⟩
theorem SoundAt.frozen {P : Program} {f n : Nat} {as : List AV} {r : AV} (hS : ∀ C S us, RL C as S us → S = []) (h : SoundAt P f as r (List.replicate n .bot)) : SoundAt P f as (vw 0 r) (List.replicate n .bot) := by
 intro w forb us S hr hnd hsz hforb
 have hS0 : S = [] := hS _ _ _ hr
 subst hS0
 refine Calls.mono (h w forb us [] hr hnd hsz hforb) ?_
 rintro e w' ⟨v, S', he, hv, hnd', hmem, hk⟩
 rw [RL] at hv
 obtain ⟨S1, S2, u, us', rfl, hu, h1, h2⟩ := hv
 cases hu
 obtain ⟨rfl, h4⟩ := Y9 n h2
 refine ⟨v, [], he, ?_, List.nodup_nil, by simp, hk⟩
 rw [RL]
 refine ⟨[], [], v, us, rfl, rfl, ?_, h4 _⟩
 refine R.open (c := 0) (iE (C' := Xt w' [] forb) 0 r (Xt w' (S1 ++ []) forb) (fun _ => rfl) rfl ?_ S1 v h1 ?_)
 ·intro d b _ hb
  match d, hb with
  | 0, hb =>
    intro hx
    rcases hx with hx | hx
    ·cases hx
    ·exact hb (.inr hx)
  | d + 1, hb => exact absurd trivial hb
 ·intro x hx hbad
  rcases hbad with hbad | hbad
  ·cases hbad
  ·rcases (hmem x (by simp [hx])).2 with h5 | h5
   ·have := hforb.1 x hbad
    omega
   ·cases h5
mutual
def noV : AV → Bool
 | .bot => true
 | .v _ => true
 | .os _ es => noVL es
 | .op cs => noVL cs
 | .agg cs => noVL cs
 | .tup cs => noVL cs
 | .fn _ cs => noVL cs
 | _ => false
def noVL : List AV → Bool
 | [] => true
 | a :: as => noV a && noVL as
end
theorem Tb : ∀ (a b : List AV), noVL (a ++ b) = (noVL a && noVL b)
 | [], b => by simp [noVL]
 | x :: a, b => by simp [noVL, Tb a b, Bool.and_assoc]
theorem cf (e : AV) (h : noV e = true) : noVL (Ab e) = true := by
 cases e <;> simp_all [Ab, noVL, noV]
theorem X8 : ∀ (es : List AV), noVL es = true → noVL (Ak es) = true
 | [], _ => by simp [Ak, noVL]
 | e :: es, h => by
   simp only [noVL, Bool.and_eq_true] at h
   simp only [Ak, Tb, Bool.and_eq_true]
   exact ⟨cf e h.1, X8 es h.2⟩
mutual
theorem lq {C C' : Ctx} (hw : C'.w = C.w) : ∀ (a : AV) (S : List Nat) (u : Value), noV a = true → R C a S u → R C' a S u
 | .bot, S, u, _, hr => by rw [R] at *; exact hr
 | .v x, S, u, _, hr => by rw [R] at *; exact hr
 | .os sz es, S, u, hn, hr => by
   rw [R] at *
   simp only [noV] at hn
   obtain ⟨a, cap, hu, hc, hr⟩ := hr
   refine ⟨a, cap, hu, hc, orR ?_ hr⟩
   rintro ⟨h0, b, p, us, S', rfl, ha, hb, hroom, hcells, hsz, hrl⟩
   exact ⟨h0, b, p, us, S', rfl, ha, by rw [hw]; exact hb, by rw [hw]; exact hroom, by rw [hw]; exact hcells, hsz, noVL_ok (C := C.at 0) (C' := C'.at 0) hw _ _ _ (X8 es hn) hrl⟩
 | .op cs, S, u, hn, hr => by
   rw [R] at *
   simp only [noV] at hn
   obtain ⟨b, p, us, S', rfl, hu, hb, hroom, hcells, hrl⟩ := hr
   exact ⟨b, p, us, S', rfl, hu, by rw [hw]; exact hb, by rw [hw]; exact hroom, by rw [hw]; exact hcells, noVL_ok (C := C.at 0) (C' := C'.at 0) hw _ _ _ hn hrl⟩
 | .agg cs, S, u, hn, hr => by
   rw [R] at *
   simp only [noV] at hn
   obtain ⟨us, hu, hrl⟩ := hr
   exact ⟨us, hu, noVL_ok hw _ _ _ hn hrl⟩
 | .tup cs, S, u, hn, hr => by
   rw [R] at *
   simp only [noV] at hn
   obtain ⟨us, hu, hrl⟩ := hr
   exact ⟨us, hu, noVL_ok hw _ _ _ hn hrl⟩
 | .fn f cs, S, u, hn, hr => by
   rw [R] at *
   simp only [noV] at hn
   obtain ⟨us, hu, hrl⟩ := hr
   exact ⟨us, hu, noVL_ok hw _ _ _ hn hrl⟩
 | .sl .., S, u, hn, hr => by simp [noV] at hn
 | .vp .., S, u, hn, hr => by simp [noV] at hn
 | .ls .., S, u, hn, hr => by simp [noV] at hn
 | .lw .., S, u, hn, hr => by simp [noV] at hn
 | .lp .., S, u, hn, hr => by simp [noV] at hn
termination_by a => SizeOf.sizeOf a
decreasing_by all_goals (first | (have := JB es; simp; omega) | (simp; done) | (simp; omega))
theorem noVL_ok {C C' : Ctx} (hw : C'.w = C.w) : ∀ (as : List AV) (S : List Nat) (us : List Value), noVL as = true → RL C as S us → RL C' as S us
 | [], S, us, _, hr => by rw [RL] at *; exact hr
 | a :: as, S, us, hn, hr => by
   rw [RL] at *
   simp only [noVL, Bool.and_eq_true] at hn
   obtain ⟨S1, S2, u, us', rfl, rfl, h1, h2⟩ := hr
   exact ⟨S1, S2, u, us', rfl, rfl, lq hw _ _ _ hn.1 h1, noVL_ok hw _ _ _ hn.2 h2⟩
termination_by a => SizeOf.sizeOf a
decreasing_by all_goals (simp; omega)
end
theorem X9 : ∀ n : Nat, noVL (List.replicate n .bot) = true
 | 0 => by simp [noVL]
 | n + 1 => by simp [List.replicate_succ, noVL, noV, X9 n]
mutual
def noO : AV → Bool
 | .bot => true
 | .v _ => true
 | .sl .. => true
 | .vp .. => true
 | .agg cs => noOL cs
 | .tup cs => noOL cs
 | .fn _ cs => noOL cs
 | _ => false
def noOL : List AV → Bool
 | [] => true
 | a :: as => noO a && noOL as
end
mutual
theorem lu {C : Ctx} : ∀ (a : AV) (S : List Nat) (u : Value), noO a = true → R C a S u → S = []
 | .bot, S, u, _, hr => by rw [R] at hr; exact hr
 | .v x, S, u, _, hr => by rw [R] at hr; exact hr.1
 | .sl .., S, u, _, hr => by rw [R] at hr; exact hr.1
 | .vp .., S, u, _, hr => by rw [R] at hr; exact hr.1
 | .agg cs, S, u, hn, hr => by
   rw [R] at hr
   obtain ⟨us, _, hrl⟩ := hr
   exact noOL_ok cs S us (by simpa [noO] using hn) hrl
 | .tup cs, S, u, hn, hr => by
   rw [R] at hr
   obtain ⟨us, _, hrl⟩ := hr
   exact noOL_ok cs S us (by simpa [noO] using hn) hrl
 | .fn f cs, S, u, hn, hr => by
   rw [R] at hr
   obtain ⟨us, _, hrl⟩ := hr
   exact noOL_ok cs S us (by simpa [noO] using hn) hrl
 | .os .., S, u, hn, hr => by simp [noO] at hn
 | .op .., S, u, hn, hr => by simp [noO] at hn
 | .ls .., S, u, hn, hr => by simp [noO] at hn
 | .lw .., S, u, hn, hr => by simp [noO] at hn
 | .lp .., S, u, hn, hr => by simp [noO] at hn
theorem noOL_ok {C : Ctx} : ∀ (as : List AV) (S : List Nat) (us : List Value), noOL as = true → RL C as S us → S = []
 | [], S, us, _, hr => by rw [RL] at hr; exact hr.1
 | a :: as, S, us, hn, hr => by
   rw [RL] at hr
   simp only [noOL, Bool.and_eq_true] at hn
   obtain ⟨S1, S2, u, us', rfl, rfl, h1, h2⟩ := hr
   rw [lu a S1 u hn.1 h1, noOL_ok as S2 us' hn.2 h2]
   rfl
end
theorem SoundAt.lift {P : Program} {f n : Nat} {as : List AV} {r : AV} (hS : ∀ C S us, RL C as S us → S = []) (hv : noV r = true) (h : SoundAt P f (vwL 0 as) r (List.replicate n .bot)) : SoundAt P f as r (List.replicate n .bot) := by
 intro w forb us S hr hnd hsz hforb
 have hS0 : S = [] := hS _ _ _ hr
 subst hS0
 have hin : RL (cin w [] fun _ => False) (vwL 0 as) [] us := by
  refine RL.open (c := 0) (vwL_ok (C' := cin w [] fun _ => False) 0 as (cin w [] forb) (fun _ => rfl) rfl ?_ [] us hr (by simp))
  intro d b _ _ hx
  rcases hx with hx | hx
  ·cases hx
  ·exact hx
 refine Calls.mono (h w (fun _ => False) us [] hin List.nodup_nil (by simp) ⟨by simp, hforb.2.mono fun x hx => by simp at hx⟩) ?_
 rintro e w' ⟨v, S', he, hvv, hnd', hmem, hk⟩
 refine ⟨v, S', he, ?_, hnd', hmem, hk⟩
 exact noVL_ok (C := Xt w' S' fun _ => False) (C' := Xt w' S' forb) rfl _ _ _ (by simp only [noVL, hv, X9 n, Bool.and_true]) hvv
open Go.ChangeShapes Go.WideShapes Go.ChangeAt Go.RowKit
theorem Hq : ∀ xs : List Int, Ak (AB xs) = AB xs
 | [] => rfl
 | x :: xs => by show Ab _ ++ Ak (AB xs) = _ :: AB xs; rw [Hq xs]; rfl
theorem Tc : ∀ xs : List Bool, Ak (AC xs) = AC xs
 | [] => rfl
 | x :: xs => by show Ab _ ++ Ak (AC xs) = _ :: AC xs; rw [Tc xs]; rfl
theorem Wh (C : Ctx) : ∀ xs : List Int, RL C (AB xs) [] (xs.map fun n => Value.int .i64 n)
 | [] => by show RL C [] [] []; rw [RL]; exact ⟨rfl, rfl⟩
 | x :: xs => by
   show RL C (.v (.int .i64 x) :: AB xs) [] (.int .i64 x :: xs.map fun n => Value.int .i64 n)
   rw [RL]; exact ⟨[], [], _, _, rfl, rfl, by rw [R]; exact ⟨rfl, rfl⟩, Wh C xs⟩
theorem aB (C : Ctx) : ∀ xs : List Bool, RL C (AC xs) [] (xs.map fun n => Value.bool n)
 | [] => by show RL C [] [] []; rw [RL]; exact ⟨rfl, rfl⟩
 | x :: xs => by
   show RL C (.v (.bool x) :: AC xs) [] (.bool x :: xs.map fun n => Value.bool n)
   rw [RL]; exact ⟨[], [], _, _, rfl, rfl, by rw [R]; exact ⟨rfl, rfl⟩, aB C xs⟩
theorem RJ (xs : List Int) : Sized 1 (AB xs) := by
 intro e he
 obtain ⟨n, _, rfl⟩ := List.mem_map.1 he
 rfl
theorem ZA (xs : List Bool) : Sized 1 (AC xs) := by
 intro e he
 obtain ⟨n, _, rfl⟩ := List.mem_map.1 he
 rfl
section
variable {H : Type} {enc : TypeId × Value → H} {P : Program} {W : World}
theorem YA {w : World} {a : Addr} {v : Value} (h : w.cell? a = some v) : a = ⟨a.block, a.off, none⟩ := by
 obtain ⟨b, o, s⟩ := a
 cases s with
 | none => rfl
 | some s =>
   unfold World.cell? at h
   split at h <;> simp at h
theorem TF {xs : List Value} {es : List AV} {a : Addr} {len cap : Nat} (hl : len ≤ cap) (hx : xs.length = len) (he : es.length = len) (hcell : ∀ i v, xs[i]? = some v → W.cell? (a.add i) = some v)
  (hs : Sized 1 es) (hr : RL ((cin W [] fun _ => False).at 1) (Ak es) [] xs) : R (cin W [] fun _ => False) (.sl 1 1 es) [] (.slice (some a) len cap) := by
 rw [R]
 refine ⟨rfl, some a, cap, by rw [he], by omega, ?_⟩
 by_cases h0 : len = 0
 ·left; exact List.eq_nil_of_length_eq_zero (by omega)
 right
 have hc0 := hcell 0 _ (by rw [List.getElem?_eq_getElem (by omega)])
 have ha0 : a.add 0 = a := by cases a; rfl
 rw [ha0] at hc0
 have hsp := YA hc0
 refine ⟨a.block, a.off, xs, by rw [← hsp], block_lt_of_cell hc0, by simp [cin], ?_, hs, hr⟩
 intro j u hj
 have := hcell j u hj
 rw [hsp, CL] at this
 exact this
theorem RK {t e : TypeId} {v : Value} {x : DataW H × List MemPlace} {fuel : Nat} (ht : P.underlying t = some (.slice e)) (he : P.underlying e = some (.int .i64)) (hc : P.cellsOf e = 1)
  (hf : DataW.trod enc P W 0 (fun _ => true) true fuel t [v] = some x) :
  ∃ xs : List Int, xs.length ≤ maxLen ∧ (∀ n ∈ xs, (Lit.int .i64 n).wf = true) ∧ R (cin W [] fun _ => False) (.sl 1 1 (AB xs)) [] v := by
 rcases open_ints ht he hc hf with ⟨hcs, hx⟩ | ⟨a, len, cap, zs, hcs, _, hl, hm, hz, hx, hcell, hwf⟩
 ·simp at hcs
  subst hcs
  exact ⟨[], by simp, by simp, by rw [R]; exact ⟨rfl, none, 0, rfl, Nat.le_refl _, .inl rfl⟩⟩
 ·simp at hcs
  subst hcs
  simp at hz
  have hlen : (zs.take len).length = len := by simp; omega
  refine ⟨zs.take len, by omega, fun n hn => hwf n (List.mem_of_mem_take hn), TF (xs := (zs.take len).map fun n => .int .i64 n) hl (by simpa using hlen) (by simpa using hlen) ?_ (RJ _) (by rw [Hq]; exact Wh _ _)⟩
  intro i v hi
  simp only [List.getElem?_map, Option.map_eq_some_iff] at hi
  obtain ⟨n, hn, rfl⟩ := hi
  have hi' : i < len := by
   have := (List.getElem?_eq_some_iff.1 hn).1
   omega
  rw [List.getElem?_take_of_lt hi'] at hn
  rw [hcell i (by omega)]
  simp [hn]
theorem ZB {t e : TypeId} {v : Value} {x : DataW H × List MemPlace} {fuel : Nat} (ht : P.underlying t = some (.slice e)) (he : P.underlying e = some .bool) (hc : P.cellsOf e = 1)
  (hf : DataW.trod enc P W 0 (fun _ => true) true fuel t [v] = some x) :
  ∃ xs : List Bool, xs.length ≤ maxLen ∧ R (cin W [] fun _ => False) (.sl 1 1 (AC xs)) [] v := by
 rcases Go.Deep.open_bools ht he hc hf with ⟨hcs, hx⟩ | ⟨a, len, cap, B, hcs, _, hl, hm, hx, hcell⟩
 ·simp at hcs
  subst hcs
  exact ⟨[], by simp, by rw [R]; exact ⟨rfl, none, 0, rfl, Nat.le_refl _, .inl rfl⟩⟩
 ·simp at hcs
  subst hcs
  refine ⟨(List.range len).map B, by simp; omega, TF (xs := ((List.range len).map B).map fun n => .bool n) hl (by simp) (by simp) ?_ (ZA _) (by rw [Tc]; exact aB _ _)⟩
  intro i v hi
  simp only [List.getElem?_map, Option.map_eq_some_iff] at hi
  obtain ⟨n, ⟨m, hm', rfl⟩, rfl⟩ := hi
  have hi' : i < len := by
   have := (List.getElem?_eq_some_iff.1 hm').1
   simpa using this
  rw [List.getElem?_range hi'] at hm'
  cases hm'
  exact hcell i (by omega)
theorem N3 {P : Program} {f : FuncId} {fn : Func} {s : ChangeSpec} {c : OpenClaim} (h0 : (c.wf (OpenSpec.ofChange s)) = true) (h1 : (laidOutB P) = true) (h2 : (mapsRowed P) = true) (h3 : (fn.params.all (P.readableRec ·)) = true) (h4 : (namedTie P c.named s.vars) = true) (h5 : ((c.stops == [])) = true) (h6 : ((P.stops == [])) = true) (h7 : ((c.knobs == [])) = true) (h8 : ((P.stopKnobs == [])) = true) (h9 : ((c.inPlace == P.inPlace f)) = true) (h10 : ((c.unfollowed == P.unfollowed f)) = true) (h11 : ((c.recurses == P.recurses f)) = true) (h12 : ((c.named == P.varsNamed f)) = true) (h13 : ((c.maps == (fn.params.toList ++ s.plain.varTypes P).any (P.mapsRec ·))) = true) (h14 : ((c.ifaces == (fn.params.toList ++ s.plain.varTypes P).any (P.ifacesRec ·))) = true) (h15 : ((c.mapsOut == P.mapsAmong fn.resultTypes.toList)) = true) (h16 : ((c.loops == (fn.params.toList ++ s.plain.varTypes P).any (P.loopsFrom ·))) = true) (h17 : ((c.wideKeys == (fn.params.toList ++ s.plain.varTypes P ++ fn.resultTypes.toList).any (P.wideKeysFrom ·))) = true) (h18 : (s.vars.all (P.varReadable ·)) = true) (h19 : (fn.resultTypes.all (fun t => P.readableRec t && decide (t < P.types.size))) = true) (h20 : ((c.ifacesOut == fn.resultTypes.toList.any (P.ifacesRec ·))) = true) (h21 : ((c.loopsOut == fn.resultTypes.toList.any (P.loopsFrom ·))) = true) (h22 : ((c.plainKeys == P.plainKeys)) = true) (h23 : (c.shortTexts.isNone) = true) (h24 : (P.stopsHeard) = true) (h25 : (P.mayEnter) = true) (h26 : ((c.lifted == P.liftsFinal)) = true) (h27 : ((P.make == some c.make)) = true) (h28 : c.domain = [] ∧ c.kinds = []) (h29 : ((c.pinned == c.pinnedBy)) = true) (h30 : ((c.veiled == (fn.params.toList ++ s.plain.varTypes P ++ fn.resultTypes.toList).any (P.veiledRec ·))) = true) (h31 : (c.veiledFits P fn.params.toList (fn.params.toList ++ s.plain.varTypes P ++ fn.resultTypes.toList)) = true) : joinedFacts P f fn s c = true := by
 simp only [joinedFacts, Bool.and_eq_true]
 exact ⟨⟨⟨⟨⟨⟨⟨⟨⟨⟨⟨⟨⟨⟨⟨⟨⟨⟨⟨⟨⟨⟨⟨⟨⟨⟨⟨⟨⟨⟨⟨h0, h1⟩, h2⟩, h3⟩, h4⟩, h5⟩, h6⟩, h7⟩, h8⟩, h9⟩, h10⟩, h11⟩, h12⟩, h13⟩, h14⟩, h15⟩, h16⟩, h17⟩, h18⟩, h19⟩, h20⟩, h21⟩, h22⟩, h23⟩, h24⟩, h25⟩, h26⟩, h27⟩, by simp [h28]⟩, h29⟩, h30⟩, h31⟩
theorem bI {B : Nat} {w w' : World} (h : Kept B [] w w') : Below B w w' := ⟨h.os, h.tape, h.output, h.size, fun k hk => h.block k hk (by simp)⟩
theorem Pb (hl : laidOutB P = true) {W' : World} (hb : Below W.heap.size W W') : ∀ (ts : List TypeId) (vs : List Value) (ds : List (DataW H)) (ps : List MemPlace), (∀ t ∈ ts, P.readableRec t = true ∧ t < P.types.size) →
  DataW.TrodAll enc P W 0 (fun _ => true) true ts vs ds ps → (∀ x ∈ ps, x.block < W.heap.size) → DataW.TrodAll enc P W' 0 (fun b => decide (b < W.heap.size)) true ts vs ds ps
 | [], [], [], ps, _, h, _ => h
 | t :: ts, v :: vs, d :: ds, ps, hr, h, hlt => by
   obtain ⟨p, q, h1, h2, rfl⟩ := h
   obtain ⟨r1, r2⟩ := hr t (by simp)
   exact ⟨p, q, Below.trod hl r1 r2 h1 hb (fun x hx => hlt x (by simp [hx])), Pb hl hb ts vs ds q (fun t ht => hr t (by simp [ht])) h2 (fun x hx => hlt x (by simp [hx])), rfl⟩
 | [], _ :: _, _, _, _, h, _ => by cases h
 | [], [], _ :: _, _, _, h, _ => by cases h
 | _ :: _, [], _, _, _, h, _ => by cases h
 | _ :: _, _ :: _, [], _, _, h, _ => by cases h
end
def u8s (xs : List Int) : List AV := xs.map fun n => .v (.int .u8 n)
@[simp] theorem kK (xs : List Int) : (u8s xs).length = xs.length := by simp [u8s]
@[simp] theorem ni : u8s [] = [] := rfl
@[simp] theorem kL (xs : List Int) : (u8s xs = []) = (xs = []) := by cases xs <;> simp [u8s]
theorem i8 {xs : List Int} {i : Int} (h1 : i.toNat < xs.length) : (u8s xs)[i.toNat]? = some (.v (.int .u8 (ati xs i))) := by simp [u8s, ati, h1]
theorem fP {c : Nat} {k : IntKind} {xs : List Int} {i : Int} (h0 : 0 ≤ i) (h1 : i < xs.length) : D2 1 (.sl c 1 (u8s xs)) (.v (.int k i)) = some (.vp c [.v (.int .u8 (ati xs i))] 0) := by
 simp [D2, h0, i8 (xs := xs) (i := i) (by omega)]
@[simp] theorem gZ {c : Nat} {k : IntKind} {xs : List Int} {i : Int} : D2 1 (.sl c 1 (u8s xs)) (.v (.int k i)) = if 0 ≤ i ∧ i < xs.length then some (.vp c [.v (.int .u8 (ati xs i))] 0) else none := by
  by_cases h : 0 ≤ i ∧ i < xs.length
  ·rw [if_pos h, fP h.1 h.2]
  ·rw [if_neg h]
   by_cases h0 : 0 ≤ i
   ·have : ¬ i.toNat < xs.length := by omega
    simp [D2, h0, u8s, this]
   ·simp [D2, h0]
@[simp] theorem jA (c : Nat) : ∀ xs : List Int, vwL c (u8s xs) = u8s xs
  | [] => rfl
  | x :: xs => by show vw c _ :: vwL c (u8s xs) = _ :: u8s xs; rw [jA c xs]; rfl
theorem fQ (n : Nat) (xs : List Int) : (u8s xs).take n = u8s (xs.take n) := by simp [u8s]
@[simp] theorem ga (xs : List Int) : (u8s xs).take xs.length = u8s xs := by rw [fQ, List.take_length]
@[simp] theorem cg : ∀ xs : List Int, KM (u8s xs) = true
  | [] => rfl
  | x :: xs => by show (R3 (.v (.int .u8 x)) && KM (u8s xs)) = true; rw [cg xs]; rfl
@[simp] theorem jB : ∀ xs : List Int, okL (u8s xs) = true
  | [] => rfl
  | x :: xs => by show (okE (.v (.int .u8 x)) && okL (u8s xs)) = true; rw [jB xs]; rfl
section
variable {H : Type} {enc : TypeId × Value → H} {P : Program} {W : World}
end
abbrev tx (l : List UInt8) : Value := .string ⟨l.toArray⟩
@[simp] theorem RM (l : List UInt8) : (ByteArray.mk l.toArray).size = l.length := by simp [ByteArray.size]
@[simp] theorem Pc (l : List UInt8) : (ByteArray.mk l.toArray).toList = l := by rw [ByteArray.toList_eq]
@[simp] theorem nj (l : List UInt8) : (ByteArray.mk l.toArray).data.toList = l := rfl
@[simp] theorem lv (a b : List UInt8) : ByteArray.mk a.toArray ++ ByteArray.mk b.toArray = ByteArray.mk (a ++ b).toArray := by
  apply ByteArray.ext
  simp
@[simp] theorem kM (l : List UInt8) (i j : Nat) : (ByteArray.mk l.toArray).extract i j = ByteArray.mk ((l.drop i).take (j - i)).toArray := by
  rw [Go.Lib.extract_eq]
@[simp] theorem nk (ns : List Int) : strOfNums ns = ByteArray.mk (ns.map fun n => UInt8.ofNat n.toNat).toArray := rfl
@[simp] theorem kN (l : List UInt8) (k : Nat) (h : k < (ByteArray.mk l.toArray).size) : (ByteArray.mk l.toArray)[k]'h = l[k]'(by simpa using h) := rfl
@[simp] theorem jC (l : List UInt8) (k : Nat) : (ByteArray.mk l.toArray)[k]? = l[k]? := by
  by_cases h : k < l.length
  ·rw [getElem?_pos (ByteArray.mk l.toArray) k (by rw [RM]; exact h), List.getElem?_eq_getElem h]; rfl
  ·rw [getElem?_neg (ByteArray.mk l.toArray) k (by rw [RM]; exact h), List.getElem?_eq_none (by omega)]
@[simp] theorem lx (a b : UInt8) : ((a.toNat : Int) = (b.toNat : Int)) ↔ a = b := by
  rw [← UInt8.toNat_inj]
  omega
def btx (l : List UInt8) (i : Int) : Int := ((l.getD i.toNat 0).toNat : Int)
@[simp 1100] theorem nC {l : List UInt8} {k : IntKind} {i : Int} : Yv (.v (.string (ByteArray.mk l.toArray))) (.v (.int k i)) = if 0 ≤ i ∧ i < l.length then some (.v (.int .u8 (btx l i))) else none := by
  simp only [Yv]
  by_cases h0 : 0 ≤ i
  ·by_cases h1 : i < l.length
   ·have hl : i.toNat < (ByteArray.mk l.toArray).size := by rw [RM]; omega
    have hl2 : i.toNat < l.length := by omega
    have e : (ByteArray.mk l.toArray)[i.toNat]? = some l[i.toNat] := by
     rw [getElem?_pos (ByteArray.mk l.toArray) i.toNat hl]
     rfl
    rw [if_pos h0, if_pos ⟨h0, h1⟩, e]
    simp [btx, hl2]
   ·have hl : ¬ i.toNat < (ByteArray.mk l.toArray).size := by rw [RM]; omega
    have e : (ByteArray.mk l.toArray)[i.toNat]? = none := getElem?_neg (ByteArray.mk l.toArray) i.toNat hl
    rw [if_pos h0, if_neg (fun h => h1 h.2), e]
  ·simp [h0]
@[simp] theorem nl {l : List UInt8} : gI (.v (.string (ByteArray.mk l.toArray))) = some (.v (.int .i64 l.length)) := by simp [gI]
@[simp 1100] theorem jD {a b : List UInt8} : eS .add 1 (.v (.string (ByteArray.mk a.toArray))) (.v (.string (ByteArray.mk b.toArray))) = if a.length + b.length ≤ 140737488355328 then some (.v (.string (ByteArray.mk (a ++ b).toArray))) else none := by
  simp only [eS, PQ, RM, if_true]
  split <;> simp
@[simp 1100] theorem jE {a b : List UInt8} : eS .eql 1 (.v (.string (ByteArray.mk a.toArray))) (.v (.string (ByteArray.mk b.toArray))) = some (.v (.bool (decide (a = b)))) := by
  have e : (a == b) = decide (a = b) := by
   by_cases h : a = b <;> simp [h]
  simp only [eS, PQ, Pc, if_true, e]
  rfl
@[simp 1100] theorem jF {a b : List UInt8} : eS .neq 1 (.v (.string (ByteArray.mk a.toArray))) (.v (.string (ByteArray.mk b.toArray))) = some (.v (.bool (!decide (a = b)))) := by
  have e : (a == b) = decide (a = b) := by
   by_cases h : a = b <;> simp [h]
  simp only [eS, PQ, Pc, if_true, e]
  rfl
@[simp] theorem ge {a b : List UInt8} : PQ .add (ByteArray.mk a.toArray) (ByteArray.mk b.toArray) = if a.length + b.length ≤ 140737488355328 then some (.string (ByteArray.mk (a ++ b).toArray)) else none := by
  simp only [PQ, RM]
  split <;> simp
@[simp] theorem gf {a b : List UInt8} : PQ .eql (ByteArray.mk a.toArray) (ByteArray.mk b.toArray) = some (.bool (decide (a = b))) := by
  have e : (a == b) = decide (a = b) := by
   by_cases h : a = b <;> simp [h]
  simp only [PQ, Pc, e]
@[simp] theorem gg {a b : List UInt8} : PQ .neq (ByteArray.mk a.toArray) (ByteArray.mk b.toArray) = some (.bool (!decide (a = b))) := by
  have e : (a == b) = decide (a = b) := by
   by_cases h : a = b <;> simp [h]
  simp only [PQ, Pc, e]
@[simp] theorem jG : ∀ xs : List Int, u8L (u8s xs) = some xs
  | [] => rfl
  | x :: xs => by show (u8L (u8s xs)).map (x :: ·) = _; rw [jG xs]; rfl
def txs (ls : List (List UInt8)) : List AV := ls.map fun l => .v (tx l)
@[simp] theorem Ni (ls : List (List UInt8)) : (txs ls).length = ls.length := by simp [txs]
@[simp] theorem nm : txs [] = [] := rfl
@[simp] theorem kO (ls : List (List UInt8)) : (txs ls = []) = (ls = []) := by cases ls <;> simp [txs]
theorem Nj (a b : List (List UInt8)) : txs (a ++ b) = txs a ++ txs b := by simp [txs]
theorem ZC (a : List UInt8) : txs [a] = [.v (tx a)] := rfl
def att (ls : List (List UInt8)) (i : Int) : List UInt8 := ls.getD i.toNat []
theorem jH {ls : List (List UInt8)} {i : Int} (h1 : i.toNat < ls.length) : (txs ls)[i.toNat]? = some (.v (tx (att ls i))) := by simp [txs, att, h1]
@[simp] theorem jI {ls : List (List UInt8)} {i : Nat} (h : i < (txs ls).length) : (txs ls)[i]'h = .v (tx (ls[i]'(by simpa using h))) := by simp [txs]
theorem fR {c : Nat} {k : IntKind} {ls : List (List UInt8)} {i : Int} (h0 : 0 ≤ i) (h1 : i < ls.length) : D2 1 (.sl c 1 (txs ls)) (.v (.int k i)) = some (.vp c [.v (tx (att ls i))] 0) := by
 simp [D2, h0, jH (ls := ls) (i := i) (by omega)]
@[simp] theorem gi {c : Nat} {k : IntKind} {ls : List (List UInt8)} {i : Int} : D2 1 (.sl c 1 (txs ls)) (.v (.int k i)) = if 0 ≤ i ∧ i < ls.length then some (.vp c [.v (tx (att ls i))] 0) else none := by
  by_cases h : 0 ≤ i ∧ i < ls.length
  ·rw [if_pos h, fR h.1 h.2]
  ·rw [if_neg h]
   by_cases h0 : 0 ≤ i
   ·have : ¬ i.toNat < ls.length := by omega
    simp [D2, h0, txs, this]
   ·simp [D2, h0]
@[simp] theorem jJ (c : Nat) : ∀ ls : List (List UInt8), vwL c (txs ls) = txs ls
  | [] => rfl
  | x :: xs => by show vw c _ :: vwL c (txs xs) = _ :: txs xs; rw [jJ c xs]; rfl
theorem fS (n : Nat) (ls : List (List UInt8)) : (txs ls).take n = txs (ls.take n) := by simp [txs]
@[simp] theorem gj (ls : List (List UInt8)) : (txs ls).take ls.length = txs ls := by rw [fS, List.take_length]
@[simp] theorem ch : ∀ ls : List (List UInt8), KM (txs ls) = true
  | [] => rfl
  | x :: xs => by show (R3 (.v (tx x)) && KM (txs xs)) = true; rw [ch xs]; rfl
@[simp] theorem jK : ∀ ls : List (List UInt8), okL (txs ls) = true
  | [] => rfl
  | x :: xs => by show (okE (.v (tx x)) && okL (txs xs)) = true; rw [jK xs]; rfl
theorem MQ : ∀ ls : List (List UInt8), Ak (txs ls) = txs ls
 | [] => rfl
 | x :: xs => by show Ab _ ++ Ak (txs xs) = _ :: txs xs; rw [MQ xs]; rfl
theorem aC (C : Ctx) : ∀ ls : List (List UInt8), RL C (txs ls) [] (ls.map tx)
 | [] => by show RL C [] [] []; rw [RL]; exact ⟨rfl, rfl⟩
 | x :: xs => by
   show RL C (.v (tx x) :: txs xs) [] (tx x :: xs.map tx)
   rw [RL]; exact ⟨[], [], _, _, rfl, rfl, by rw [R]; exact ⟨rfl, rfl⟩, aC C xs⟩
theorem Td (ls : List (List UInt8)) : Sized 1 (txs ls) := by
 intro e he
 obtain ⟨n, _, rfl⟩ := List.mem_map.1 he
 rfl
section
variable {H : Type} {enc : TypeId × Value → H} {P : Program} {W : World}
theorem ZD : ∀ {l : List (String × DataW Unit)} {ps : List MemPlace}, DataW.LaidVars P W l ps → ∀ {n : String} {d : DataW Unit}, (n, d) ∈ l →
  ∃ g t cs fuel p, P.globalNamed n = some g ∧ (P.globals[g]?).map (·.type) = some t ∧ W.var? P n = some cs ∧ DataW.trod (fun _ => ()) P W 0 (fun _ => true) false fuel t cs.toList = some (d, p)
 | [], _, _, _, _, hm => by cases hm
 | (n', d') :: r, ps, h, n, d, hm => by
   obtain ⟨g, t, cs, fuel, p, q, h1, h2, h3, h4, h5, _⟩ := h
   rcases List.mem_cons.1 hm with e | hm
   ·cases e
    exact ⟨g, t, cs, fuel, p, h1, h2, h3, h4⟩
   ·exact ZD h5 hm
theorem bJ {n : String} {t e : TypeId} {g fuel : Nat} {cs : Array Value} {p : List MemPlace} {ls : List (List UInt8)} (hg : P.globalNamed n = some g) (ht : P.underlying t = some (.slice e)) (he : P.underlying e = some .string) (hc : P.cellsOf e = 1) (hv : W.var? P n = some cs)
  (htr : DataW.trod (fun _ => ()) P W 0 (fun _ => true) false fuel t cs.toList = some (.slice (ls.map fun l => .lit (.string l)) [], p)) :
  R (Zp W [] fun _ => False) (.vp 0 [.sl 0 1 (txs ls)] 0) [] (.pointer (some ⟨g, 0, none⟩)) := by
 rcases open_strings ht he hc htr with ⟨_, hx⟩ | ⟨a, len, cap, ss, hcs, _, hl, _, hss, hx, hcell, _⟩
 ·cases hx
 simp only [if_true] at hss
 simp only [Prod.mk.injEq, DataW.slice.injEq] at hx
 obtain ⟨⟨hx1, hx2⟩, _⟩ := hx
 have hlen : len = cap := by
  have h0 : (ss.drop len).length = 0 := by
   have := congrArg List.length hx2
   simp [strs] at this
   simp; omega
  simp at h0
  omega
 subst hlen
 rw [← hss, List.take_length] at hx1
 have hls : ls = ss.map fun s => s.data.toList := by
  have h2 : (ls.map fun l => (DataW.lit (.string l) : DataW Unit)) = ss.map fun s => DataW.lit (.string s.data.toList) := hx1
  have h3 := congrArg (List.map fun d : DataW Unit => match d with | .lit (.string l) => l | _ => []) h2
  simpa [List.map_map, Function.comp_def] using h3
 have h0 : W.cell? ⟨g, 0, none⟩ = some (.slice (some a) len len) := by
  rw [World.var?_cell hg hv 0]
  have : cs.toList[0]? = some (.slice (some a) len len) := by rw [hcs]; rfl
  simpa using this
 rw [R]
 refine ⟨rfl, g, 0, [.slice (some a) len len], rfl, block_lt_of_cell h0, by simp [Zp], ?_, ?_⟩
 ·intro j u hj
  match j, hj with
  | 0, hj => simp only [List.getElem?_cons_zero, Option.some.injEq] at hj; subst hj; exact h0
  | j + 1, hj => simp at hj
 rw [RL]
 refine ⟨[], [], _, _, rfl, rfl, ?_, by rw [RL]; exact ⟨rfl, rfl⟩⟩
 rw [R]
 have hll : (txs ls).length = len := by rw [Ni, hls]; simp [hss]
 refine ⟨rfl, some a, len, by rw [hll], by rw [hll]; exact Nat.le_refl _, ?_⟩
 by_cases hz : len = 0
 ·left; exact List.eq_nil_of_length_eq_zero (by omega)
 right
 have hc0 := hcell 0 (by omega)
 have ha0 : a.add 0 = a := by cases a; rfl
 rw [ha0] at hc0
 have hsp := YA hc0
 refine ⟨a.block, a.off, ls.map tx, by rw [← hsp], block_lt_of_cell hc0, by simp [Zp, Ctx.at], ?_, Td _, by rw [MQ]; exact aC _ _⟩
 intro j u hj
 rw [hls] at hj
 simp only [List.map_map, List.getElem?_map, Option.map_eq_some_iff] at hj
 obtain ⟨s, hs, rfl⟩ := hj
 have hj' : j < ss.length := (List.getElem?_eq_some_iff.1 hs).1
 have := hcell j hj'
 rw [hsp, CL] at this
 show W.cell? ⟨a.block, a.off + j, none⟩ = _
 rw [this, List.getD, hs]
 show some (Value.string s) = some (tx s.data.toList)
 rw [show tx s.data.toList = Value.string ⟨s.data.toList.toArray⟩ from rfl, Go.Lib.mk_data]
theorem Wi {H : Type} {enc : TypeId × Value → H} {t : TypeId} {ms : Array (String × TypeId)} {fuel base : Nat} {spare : Nat → Bool} {held : Bool} {cs : List Value} {x : DataW H × List MemPlace} (ht : P.underlying t = some (.interface ms)) (h : DataW.trod enc P W base spare held fuel t cs = some x) :
  ∃ v, cs = [v] ∧ iD v := by
 cases fuel with
 | zero => simp [DataW.trod] at h
 | succ n =>
   unfold DataW.trod at h
   rw [ht] at h
   split at h <;> simp_all [iD]
theorem aD {l : List (String × DataW Unit)} {ps : List MemPlace} {n : String} {d : DataW Unit} {g : Nat} {t : TypeId} {ms : Array (String × TypeId)} (h : DataW.LaidVars P W l ps) (hm : (n, d) ∈ l) (hg : P.globalNamed n = some g) (ht : (P.globals[g]?).map (·.type) = some t) (hu : P.underlying t = some (.interface ms)) :
  ∃ u, W.cell? ⟨g, 0, none⟩ = some u ∧ iD u := by
 obtain ⟨g', t', cs, fuel, p, e1, e2, e3, e4⟩ := ZD h hm
 rw [hg] at e1; cases e1
 rw [ht] at e2; cases e2
 obtain ⟨v, hcs, hv⟩ := Wi hu e4
 refine ⟨v, ?_, hv⟩
 rw [World.var?_cell hg e3 0]
 have : cs.toList[0]? = some v := by rw [hcs]; rfl
 simpa using this
theorem N4 {a : Assume} {C : Checked} {os : Os} {f : FuncId} {fn : Func} {s : ChangeSpec} {conds : List PathCond} {apart fresh handsOn C6 : Bool} {X : World → Array Value → Prop}
  (hX : ∀ (w w' : World) (args : Array Value), w.heap = w'.heap → X w args → X w' args)
  (own : ownKnob C.prog.godebug = none) (started : os.Started) (noInit : C.prog.inits.idxOf? f = none) (hfn : C.prog.funcs[f]? = some fn)
  (witness : ∃ (w : World) (tape : Tape) (i : Input), w.os = os ∧ (w.forCall tape i).Shaped C.prog ∧ i.vars = [] ∧ Input.okWide C.prog (w.forCall tape i) .any w.heap.size f i ∧
   ((s.pre enc C.prog fn conds apart (w.forCall tape i).memory i.args ∧ X (w.forCall tape i).memory i.args) ∧ sizedMet enc C.prog fn (OpenSpec.ofChange s) apart (w.forCall tape i).memory i.args) ∧ a.holds C.prog (lone (Frame.enter C.prog f i.args .normal) [] (w.forCall tape i)))
  (contract : ∀ (W : World) (base : Nat) (args : Array Value) (ds gs : List (DataW H)) (before : List MemPlace),
   (∀ (j : Nat) t v, fn.params[j]? = some t → args[j]? = some v → Value.okWide C.prog W .any base t v) →
   DataW.Whole enc C.prog fn.params.toList s.vars apart W args.toList ds gs before →
   conds.all (PathCond.test C.prog ⟨fn.params.toList, ds, s.plain.varTypes C.prog, gs⟩) = true →
   (DataW.weightsEach C.prog (fn.params.toList ++ s.plain.varTypes C.prog) (ds ++ gs)).all (· ≤ reachBytes) = true → X W args → W.ShapedOpen C.prog →
   Calls C.prog f args W fun e W' => ∃ v, e = .returned v ∧ s.post enc C.prog fn apart fresh handsOn C6 W args v W') :
  ReturnsInHanded a C os f .any (fun w args => (s.pre enc C.prog fn conds apart w args ∧ X w args) ∧ sizedMet enc C.prog fn (OpenSpec.ofChange s) apart w args) (s.post enc C.prog fn apart fresh handsOn C6) := by
 refine returnsInHanded_of_calls own started noInit witness ?_
 intro w tape i _ hsh _ hok hpre _
 obtain ⟨_, _, _, fn', hfn', _, _, _, _, hval⟩ := hok
 have e : fn' = fn := Option.some.inj (hfn'.symm.trans hfn)
 subst e
 obtain ⟨⟨⟨ds, gs, before, hw, hc⟩, hx⟩, hz⟩ := hpre
 have hw' := DataW.Whole.of_heap (w' := w.forCall tape i) (by rfl) hw
 refine (contract (w.forCall tape i) w.heap.size i.args ds gs before hval hw' hc (hz.weights hw) (hX _ _ _ (by rfl) hx) hsh).mono fun e W' ⟨v, he, hp⟩ => ?_
 subst he
 exact ChangeSpec.post_blind hp
theorem YB {f : FuncId} {fn : Func} {s : ChangeSpec} {args : Array Value} {ds gs : List (DataW H)} {p : List MemPlace} {bs ups : List AV} {tb tv e : TypeId} {nv : String} {g : Nat}
  (hgb : GB W [] fun _ => False) (hs : SoundAt P f bs (.v (.bool true)) ups) (hr : RL (cin W [] fun _ => False) bs [] args.toList) (hl : laidOutB P = true) (hrd : ∀ t ∈ fn.params.toList, P.readableRec t = true ∧ t < P.types.size)
  (hW : DataW.Whole enc P fn.params.toList s.vars false W args.toList ds gs p) (hv0 : s.vars = [nv]) (hspec : ∀ g1, gs = [g1] → s.fn H (ds ++ [g1]) = { results := [.lit (.bool true)], args := ds, vars := [g1] })
  (hrt : fn.resultTypes = #[tb]) (htb : P.underlying tb = some .bool) (hg : P.globalNamed nv = some g) (hgt : (P.globals[g]?).map (·.type) = some tv) (hsl : P.underlying tv = some (.slice e)) (hrv : P.readableRec tv = true ∧ tv < P.types.size) :
  Calls P f args W fun e W' => ∃ v, e = .returned v ∧ s.post enc P fn false true false false W args v W' := by
 have hc := hs W (fun _ => False) args.toList [] hr (by simp) (by simp) ⟨by simp, hgb⟩
 refine hc.mono ?_
 rintro e W' ⟨v, S', rfl, hrl, _, _, hk⟩
 rw [RL] at hrl
 obtain ⟨S1, S2, u, us', _, huv, h1, _⟩ := hrl
 cases huv
 rw [R] at h1
 obtain ⟨_, rfl⟩ := h1
 have hb := bI hk
 have hlt : ∀ x ∈ p, x.block < W.heap.size := fun x hx => hW.lt x hx
 have hW' := hW
 obtain ⟨pA, pV, hA, hV, hp, _, _⟩ := hW
 rw [hv0] at hV
 obtain ⟨g', t', cs, fuel, d, q, rfl, h2, h3, h4, h5, h6⟩ := trodVars_one hV
 rw [hg] at h2; cases h2
 rw [hgt] at h3; cases h3
 obtain ⟨v, hcs, hcl⟩ : ∃ v : Value, cs.toList = [v] ∧ v.cells.toList = [v] := by
  rcases Go.Deep.open_slice hsl h5 with ⟨hcs, _⟩ | ⟨a, len, cap, m, n, D, Pl, hcs, _⟩
  ·exact ⟨_, hcs, rfl⟩
  ·exact ⟨_, hcs, rfl⟩
 have ht0 : DataW.Trod enc P W 0 (fun _ => true) true tv v d q := ⟨fuel, by rw [hcl, ← hcs]; exact h5⟩
 have hqlt : ∀ x ∈ q, x.block < W.heap.size := fun x hx => hlt x (by rw [hp, h6]; simp [hx])
 obtain ⟨fuel', ht1⟩ := Below.trod hl hrv.1 hrv.2 ht0 hb hqlt
 rw [hcl, ← hcs] at ht1
 have hgl : g < W.heap.size := by
  have h0 := World.var?_cell hg h4 0
  have : cs.toList[0]? = some v := by rw [hcs]; rfl
  rw [show cs[0]? = some v by simpa using this] at h0
  exact block_lt_of_cell h0
 have hvar : W'.var? P nv = some cs := by
  simp only [World.var?, hg, Option.bind_some] at h4 ⊢
  rw [hb.block g hgl]; exact h4
 refine ⟨_, rfl, ds, [d], p, [], pA, pV, hW', ?_, ?_, ?_, World.keptBut_mono (fun q hq => ⟨hq, ?_⟩) (hb.frame (· ∈ p)), fun h => by cases h⟩
 ·rw [hspec d rfl, hrt]
  exact trodAll_mk1 (shut_bool htb true)
 ·rw [hspec d rfl]
  exact Pb hl hb _ _ _ _ hrd hA (fun x hx => hlt x (by rw [hp]; simp [hx]))
 ·rw [hspec d rfl, hv0, h6]
  exact trodVars_mk1 hg hgt hvar ht1
 ·rw [hp, List.mem_append] at hq
  exact .inr hq
end
def Bg : List Bool → Nat
 | [] => 0
 | b :: bs => (if b then 1 else 0) + Bg bs
theorem Pd : ∀ (a b : List Bool), Bg (a ++ b) = Bg a + Bg b
 | [], b => by simp [Bg]
 | x :: a, b => by simp [Bg, Pd a b]; omega
theorem Hx : ∀ a : List Bool, Bg a ≤ a.length
 | [] => by simp [Bg]
 | x :: a => by have := Hx a; cases x <;> simp [Bg] <;> omega
theorem O2 (bs : List Bool) (i : Nat) (h : i < bs.length) : Bg (bs.take (i + 1)) = Bg (bs.take i) + if atb bs i then 1 else 0 := by
 rw [List.take_succ_eq_append_getElem h, Pd]; simp [Bg, atb, h]
def A0 (W T : Int) (cs : List Bool) : Bool := decide (1 ≤ W ∧ W ≤ 6 ∧ 1 ≤ T ∧ T ≤ 6 ∧ (cs.length : Int) = W * T ∧ Bg cs ≤ 24)
def AJ (W T cell way : Int) : Int :=
 if way = 1 ∧ cell % W < W - 1 then cell + 1 else
 if way = 2 ∧ cell / W < T - 1 then cell + W else
 if way = 3 ∧ 0 < cell % W then cell - 1 else
 if way = 4 ∧ 0 < cell / W then cell - W else -1
def Cn (way : Int) : Int := (way + 1) % 4 + 1
def J5 (W T : Int) (cs : List Bool) (laid : List Int) (k : Int) : Bool :=
 decide (ati laid k = 0 ∨ (1 ≤ ati laid k ∧ ati laid k ≤ 4 ∧ atb cs k = true ∧ 0 ≤ AJ W T k (ati laid k) ∧ atb cs (AJ W T k (ati laid k)) = true ∧ ati laid (AJ W T k (ati laid k)) = Cn (ati laid k)))
def AO (W T : Int) (cs : List Bool) (laid : List Int) : Bool := decide (laid.length = cs.length) && U6 laid.length (fun k => J5 W T cs laid k)
def KO (cs : List Bool) (ds : List Int) (k : Int) : Bool := if atb cs k then decide (0 ≤ ati ds k ∧ ati ds k ≤ 6) else decide (ati ds k = -1)
def Cg (cs : List Bool) (ds : List Int) : Bool := decide (ds.length = cs.length) && U6 ds.length (fun k => KO cs ds k)
def YC (a b : Int) : Int := 7 * min a b + max a b
def Aw (W T : Int) (ds laid : List Int) (n : Nat) : List Int :=
 (List.range n).flatMap fun k : Nat => if ati laid k = 1 ∨ ati laid k = 2 then [YC (ati ds k) (ati ds (AJ W T k (ati laid k)))] else []
def B3 (W T : Int) (ds laid : List Int) : List Int := Aw W T ds laid laid.length
theorem FG (W T : Int) (ds laid : List Int) (n : Nat) : Aw W T ds laid (n + 1) = Aw W T ds laid n ++ if ati laid n = 1 ∨ ati laid n = 2 then [YC (ati ds n) (ati ds (AJ W T n (ati laid n)))] else [] := by
 simp [Aw, List.range_succ]
theorem En (W T : Int) (ds laid : List Int) : ∀ n, (Aw W T ds laid n).length ≤ n
 | 0 => by simp [Aw]
 | n + 1 => by
   have := En W T ds laid n
   rw [FG]; split <;> simp <;> omega
theorem CM {W T : Int} {cs : List Bool} (h : A0 W T cs = true) : 1 ≤ W ∧ W ≤ 6 ∧ 1 ≤ T ∧ T ≤ 6 ∧ (cs.length : Int) = W * T ∧ Bg cs ≤ 24 := by simpa [A0] using h
theorem AZ {W T : Int} {cs : List Bool} (h : A0 W T cs = true) : cs.length ≤ 36 := by
 obtain ⟨h1, h2, h3, h4, h5, _⟩ := CM h
 have : W * T ≤ 6 * 6 := Int.mul_le_mul h2 h4 (by omega) (by omega)
 omega
theorem Wj {W T : Int} {k : Int} (hW : 1 ≤ W) (h0 : 0 ≤ k) (h1 : k < W * T) : 0 ≤ k % W ∧ k % W < W ∧ 0 ≤ k / W ∧ k / W < T ∧ k = k / W * W + k % W := by
 refine ⟨Int.emod_nonneg _ (by omega), Int.emod_lt_of_pos _ (by omega), Int.ediv_nonneg h0 (by omega), ?_, ?_⟩
 ·exact Int.ediv_lt_of_lt_mul (by omega) (by rw [Int.mul_comm]; exact h1)
 ·have := Int.mul_ediv_add_emod k W; rw [Int.mul_comm] at this; omega
theorem aE {W T x y : Int} (hW : 1 ≤ W) (hx : 0 ≤ x) (hx2 : x < W) (hy : 0 ≤ y) (hy2 : y < T) : 0 ≤ y * W + x ∧ y * W + x < W * T := by
 have h1 : 0 ≤ y * W := Int.mul_nonneg hy (by omega)
 have h2 : (y + 1) * W ≤ T * W := Int.mul_le_mul_of_nonneg_right (by omega) (by omega)
 rw [Int.add_mul, Int.mul_comm T W] at h2
 omega
theorem GR {W T k way : Int} (hW : 1 ≤ W) (h0 : 0 ≤ k) (h1 : k < W * T) : AJ W T k way = -1 ∨ (0 ≤ AJ W T k way ∧ AJ W T k way < W * T ∧ 1 ≤ way ∧ way ≤ 4) := by
 obtain ⟨a1, a2, a3, a4, a5⟩ := Wj hW h0 h1
 unfold AJ
 split
 ·rename_i h
  right
  have := aE (T := T) hW (x := k % W + 1) (y := k / W) (by omega) (by omega) a3 a4
  omega
 split
 ·rename_i h
  right
  have := aE (T := T) hW (x := k % W) (y := k / W + 1) (by omega) (by omega) (by omega) (by omega)
  rw [Int.add_mul] at this
  omega
 split
 ·rename_i h
  right
  have := aE (T := T) hW (x := k % W - 1) (y := k / W) (by omega) (by omega) a3 a4
  omega
 split
 ·rename_i h
  right
  have := aE (T := T) hW (x := k % W) (y := k / W - 1) (by omega) (by omega) (by omega) (by omega)
  rw [Int.sub_mul] at this
  omega
 ·left; rfl
def srt (xs : List Int) : List Int := xs.mergeSort fun x y => decide (x ≤ y)
def KP (xs : List Int) : Bool := decide xs.Nodup
theorem Nk (xs : List Int) : (srt xs).length = xs.length := by simp [srt]
theorem fT (xs : List Int) : List.Perm (srt xs) xs := List.mergeSort_perm xs _
theorem bK (xs : List Int) : List.Pairwise (· ≤ ·) (srt xs) := by
 have h := List.pairwise_mergeSort (le := fun x y : Int => decide (x ≤ y)) (fun a b c h1 h2 => by simp at *; omega) (fun a b => by simp; omega) xs
 exact h.imp (by simp)
theorem ZE {ys : List Int} (hs : List.Pairwise (· ≤ ·) ys) : (∀ j, j < ys.length → Lib.keeps ys.toArray j = true) ↔ ys.Nodup := by
 constructor
 ·intro h
  refine List.pairwise_iff_getElem.2 fun i j hi hj hij => ?_
  have h1 := h j hj
  simp only [Lib.keeps, decide_eq_true_eq] at h1
  rcases h1 with h1 | h1
  ·omega
  ·have e1 : ys.toArray[j]! = ys[j] := by simp [hj]
   have e2 : ys.toArray[j - 1]! = ys[j - 1]'(by omega) := by simp [show j - 1 < ys.length by omega]
   rw [e1, e2] at h1
   have h2 := List.pairwise_iff_getElem.1 hs (j - 1) j (by omega) hj (by omega)
   have h3 : ys[i] ≤ ys[j - 1]'(by omega) := by
    rcases Nat.lt_or_ge i (j - 1) with h4 | h4
    ·exact List.pairwise_iff_getElem.1 hs i (j - 1) hi (by omega) h4
    ·have : i = j - 1 := by omega
     subst this; exact Int.le_refl _
   omega
 ·intro h j hj
  simp only [Lib.keeps, decide_eq_true_eq]
  rcases Nat.eq_zero_or_pos j with h0 | h0
  ·exact .inl h0
  ·right
   have e1 : ys.toArray[j]! = ys[j] := by simp [hj]
   have e2 : ys.toArray[j - 1]! = ys[j - 1]'(by omega) := by simp [show j - 1 < ys.length by omega]
   rw [e1, e2]
   exact fun e => List.pairwise_iff_getElem.1 h (j - 1) j (by omega) hj (by omega) e.symm
theorem U7 (ys : List Int) : (Lib.compact ys).length = ys.length ↔ ∀ j, j < ys.length → Lib.keeps ys.toArray j = true := by
 unfold Lib.compact Lib.compactUpTo
 rw [List.length_map]
 constructor
 ·intro h j hj
  have h1 := (List.length_filter_eq_length_iff (p := Lib.keeps ys.toArray) (l := List.range ys.length)).1 (by rw [h, List.length_range])
  exact h1 j (by simpa using hj)
 ·intro h
  rw [(List.length_filter_eq_length_iff (p := Lib.keeps ys.toArray) (l := List.range ys.length)).2 (fun j hj => h j (by simpa using hj)), List.length_range]
theorem V8 (ys : List Int) : (Lib.compact ys).length ≤ ys.length := by
 unfold Lib.compact Lib.compactUpTo
 rw [List.length_map]
 exact Nat.le_trans (List.length_filter_le _ _) (by simp)
theorem ZF (xs : List Int) : (Lib.compact (srt xs)).length = xs.length ↔ xs.Nodup := by
 rw [← Nk xs, U7, ZE (bK xs)]
 exact (fT xs).nodup_iff
theorem U8 (xs : List Int) (i : Nat) (h : i < xs.length) : (xs.take (i + 1)).Nodup ↔ (xs.take i).Nodup ∧ ¬ ati xs i ∈ xs.take i := by
 have e : ati xs i = xs[i] := by simp [ati, h]
 rw [List.take_succ_eq_append_getElem h, e, List.nodup_append]
 simp
 intro _
 constructor
 ·intro h1 h2; exact h1 _ h2 rfl
 ·intro h1 a h2 h3; subst h3; exact h1 h2
open Go.Sort
abbrev Cw : Int → Value := Value.int .i64
theorem fU {w : World} {n : Nat} {os : Array Obj} {blk off : Nat} {d0 d : Array Int} (hH : Holds Cw w blk off d0) (hs : d.size = d0.size) (b p k : Nat) (h : Ns w b p k) : Ns (grow (putRow Cw (Go.Sort.ahead w n) blk off d) os) b p k := by
 intro j hj
 obtain ⟨⟨u, hu⟩, hf⟩ := h j hj
 have hlt : b < w.heap.size := block_lt_of_cell hu
 have hsz : (putRow Cw (Go.Sort.ahead w n) blk off d).heap.size = w.heap.size := by simp [putRow, mapBlock, Go.Sort.ahead]
 rw [cell?_grow _ _ _ (by rw [hsz]; exact hlt), frozen?_grow _ _ _ (by rw [hsz]; exact hlt)]
 refine ⟨?_, by unfold putRow; rw [frozen?_mapBlock]; exact hf⟩
 by_cases ho : b ≠ blk ∨ p + j < off ∨ off + d.size ≤ p + j
 ·rw [cell?_putRow_other Cw _ blk off d ⟨b, p + j, none⟩ ho]
  exact ⟨u, hu⟩
 ·have hb : b = blk := by
   rcases Nat.lt_trichotomy b blk with h1 | h1 | h1
   ·exact absurd (.inl (by omega)) ho
   ·exact h1
   ·exact absurd (.inl (by omega)) ho
  subst hb
  have h2 : off ≤ p + j ∧ p + j < off + d.size := ⟨by
   rcases Nat.lt_or_ge (p + j) off with h1 | h1
   ·exact absurd (.inr (.inl h1)) ho
   ·exact h1, by
   rcases Nat.lt_or_ge (p + j) (off + d.size) with h1 | h1
   ·exact h1
   ·exact absurd (.inr (.inr h1)) ho⟩
  have h3 := (holds_putRow Cw (Go.Sort.ahead w n) b off d0 d (holds_ahead Cw w n b off d0 hH) hs) (p + j - off) (by omega)
  rw [show off + (p + j - off) = p + j by omega] at h3
  exact ⟨_, h3.1⟩
theorem aF {w : World} {n : Nat} {os : Array Obj} {blk off : Nat} {d0 d : Array Int} (hH : Holds Cw w blk off d0) (hs : d.size = d0.size) : Kept w.heap.size [blk] w (grow (putRow Cw (Go.Sort.ahead w n) blk off d) os) := by
 have hsz : (putRow Cw (Go.Sort.ahead w n) blk off d).heap.size = w.heap.size := by simp [putRow, mapBlock, Go.Sort.ahead]
 refine ⟨rfl, rfl, rfl, ?_, ?_, fU hH hs⟩
 ·simp only [grow, Array.size_append]; omega
 ·intro k hk hn
  rw [heap_grow_old _ _ (by rw [hsz]; exact hk)]
  simp only [putRow, mapBlock, Go.Sort.ahead, Array.getElem?_modify]
  rw [if_neg (fun e => hn (by simp [e]))]
theorem YD {w : World} {n : Nat} {os : Array Obj} {blk off : Nat} {d0 d : Array Int} (hb : blk < w.heap.size) (hH : Holds Cw w blk off d0) (hs : d.size = d0.size) : Cells (grow (putRow Cw (Go.Sort.ahead w n) blk off d) os) blk off (d.toList.map Cw) := by
 intro j u hj
 have hsz : (putRow Cw (Go.Sort.ahead w n) blk off d).heap.size = w.heap.size := by simp [putRow, mapBlock, Go.Sort.ahead]
 rw [cell?_grow _ _ _ (by rw [hsz]; exact hb)]
 simp only [List.getElem?_map, Option.map_eq_some_iff, Array.getElem?_toList] at hj
 obtain ⟨x, hx, rfl⟩ := hj
 obtain ⟨h1, h2⟩ := Array.getElem?_eq_some_iff.1 hx
 have h3 := (holds_putRow Cw (Go.Sort.ahead w n) blk off d0 d (holds_ahead Cw w n blk off d0 hH) hs) j h1
 rw [h3.1, getElem!_pos d j h1, h2]
theorem Te {C : Ctx} : ∀ {xs : List Int} {S : List Nat} {us : List Value}, RL C (AB xs) S us → S = [] ∧ us = xs.map Cw
 | [], S, us, h => by
   have h' : RL C [] S us := h
   rw [RL] at h'
   simpa using h'
 | x :: xs, S, us, h => by
   have h' : RL C (.v (.int .i64 x) :: AB xs) S us := h
   rw [RL] at h'
   obtain ⟨S1, S2, u, us', rfl, rfl, h1, h2⟩ := h'
   rw [R] at h1
   obtain ⟨rfl, rfl⟩ := h1
   obtain ⟨rfl, rfl⟩ := Te h2
   exact ⟨rfl, rfl⟩
theorem YE {w : World} {S : List Nat} {forb : Nat → Prop} {zs : List Int} {us : List Value} (hr : RL (cin w S forb) [.os 1 (AB zs)] S us) (hz : zs ≠ []) :
  ∃ b p cap, us = [.slice (some ⟨b, p, none⟩) zs.length cap] ∧ zs.length ≤ cap ∧ S = [b] ∧ b < w.heap.size ∧ Ns w b p cap ∧ Holds Cw w b p zs.toArray := by
 rw [RL] at hr
 obtain ⟨S1, S2, u, us', hS, rfl, h1, h2⟩ := hr
 rw [RL] at h2
 obtain ⟨rfl, rfl⟩ := h2
 rw [List.append_nil] at hS
 subst hS
 rw [R] at h1
 obtain ⟨a, cap, rfl, hc, h1⟩ := h1
 rw [GO] at hc
 rcases h1 with ⟨h0, _⟩ | ⟨h0, b, p, vs, S', rfl, rfl, hb, hroom, hcells, _, hrl⟩
 ·exact absurd (List.eq_nil_of_length_eq_zero (by omega)) hz
 ·rw [Hq] at hrl
  obtain ⟨rfl, rfl⟩ := Te hrl
  rw [Nat.mul_one] at hroom
  refine ⟨b, p, cap, by rw [GO], hc, rfl, hb, hroom, ?_⟩
  intro j hj
  have hj' : j < zs.length := by simpa using hj
  refine ⟨?_, (hroom j (by omega)).2⟩
  rw [getElem!_pos zs.toArray j hj]
  exact hcells j _ (by simp [hj'])
theorem ci {P : Program} {f : Nat} {zs ys : List Int} (hl : ys.length = zs.length) (hz : zs ≠ [])
  (hc : ∀ (blk off cap : Nat) (w : World), Holds Cw w blk off zs.toArray → blk < w.heap.size →
   Calls P f #[.slice (some ⟨blk, off, none⟩) zs.length cap] w fun e w' => e = .returned (.tuple #[]) ∧ ∃ n os, w' = grow (putRow Cw (Go.Sort.ahead w n) blk off ys.toArray) os) :
  SoundAt P f [.os 1 (AB zs)] (.tup []) [.os 1 (AB ys)] := by
 intro w forb us S hr hnd hlt hforb
 obtain ⟨b, p, cap, rfl, hcap, rfl, hb, hroom, hH⟩ := YE hr hz
 refine (hc b p cap w hH hb).mono ?_
 rintro e w' ⟨rfl, n, os, rfl⟩
 have hk := aF (n := n) (os := os) (d := ys.toArray) hH (by simp [hl])
 have hsz : b < (grow (putRow Cw (Go.Sort.ahead w n) b p ys.toArray) os).heap.size := Nat.lt_of_lt_of_le hb hk.size
 refine ⟨_, [b], rfl, ?_, by simp, by simpa using hsz, hk⟩
 rw [RL]
 refine ⟨[], [b], _, _, rfl, rfl, by rw [R]; exact ⟨[], rfl, by rw [RL]; exact ⟨rfl, rfl⟩⟩, ?_⟩
 rw [RL]
 refine ⟨[b], [], _, _, rfl, rfl, ?_, by rw [RL]; exact ⟨rfl, rfl⟩⟩
 rw [R]
 refine ⟨some ⟨b, p, none⟩, cap, by rw [GO, hl], by rw [GO]; omega, .inr ⟨?_, b, p, ys.map Cw, [], rfl, rfl, hsz, ?_, ?_, RJ _, ?_⟩⟩
 ·have : 0 < zs.length := List.length_pos_iff.2 hz
  omega
 ·rw [Nat.mul_one]; exact hk.room _ _ _ hroom
 ·have := YD (n := n) (os := os) (d := ys.toArray) hb hH (by simp [hl])
  simpa [Xt] using this
 ·rw [Hq]; exact Wh _ _
theorem fV {P : Program} {f : Nat} {zs ys rest : List Int} (hl : ys.length + rest.length = zs.length) (hz : zs ≠ [])
  (hc : ∀ (blk off cap : Nat) (w : World), Holds Cw w blk off zs.toArray → blk < w.heap.size → zs.length ≤ cap →
   Calls P f #[.slice (some ⟨blk, off, none⟩) zs.length cap] w fun e w' => e = .returned (.slice (some ⟨blk, off, none⟩) ys.length cap) ∧ ∃ n, w' = putRow Cw (Go.Sort.ahead w n) blk off (ys ++ rest).toArray) :
  SoundAt P f [.os 1 (AB zs)] (.os 1 (AB ys)) [.bot] := by
 intro w forb us S hr hnd hlt hforb
 obtain ⟨b, p, cap, rfl, hcap, rfl, hb, hroom, hH⟩ := YE hr hz
 refine (hc b p cap w hH hb hcap).mono ?_
 rintro e w' ⟨rfl, n, rfl⟩
 have hg : putRow Cw (Go.Sort.ahead w n) b p (ys ++ rest).toArray = grow (putRow Cw (Go.Sort.ahead w n) b p (ys ++ rest).toArray) #[] := by rw [grow_empty]
 rw [hg]
 have hk := aF (n := n) (os := #[]) (d := (ys ++ rest).toArray) hH (by simp [hl])
 have hsz : b < (grow (putRow Cw (Go.Sort.ahead w n) b p (ys ++ rest).toArray) #[]).heap.size := Nat.lt_of_lt_of_le hb hk.size
 refine ⟨_, [b], rfl, ?_, by simp, by simpa using hsz, hk⟩
 rw [RL]
 refine ⟨[b], [], _, _, rfl, rfl, ?_, by rw [RL]; exact ⟨[], [], _, _, rfl, rfl, by rw [R], by rw [RL]; exact ⟨rfl, rfl⟩⟩⟩
 rw [R]
 refine ⟨some ⟨b, p, none⟩, cap, by rw [GO], by rw [GO]; omega, .inr ⟨?_, b, p, ys.map Cw, [], rfl, rfl, hsz, ?_, ?_, RJ _, ?_⟩⟩
 ·have : 0 < zs.length := List.length_pos_iff.2 hz
  omega
 ·rw [Nat.mul_one]; exact hk.room _ _ _ hroom
 ·have := YD (n := n) (os := #[]) (d := (ys ++ rest).toArray) hb hH (by simp [hl])
  simp only [List.map_append] at this
  intro j u hj
  exact this j u (by rw [List.getElem?_append_left (List.getElem?_eq_some_iff.1 hj).1]; exact hj)
 ·rw [Hq]; exact Wh _ _
end Go.Proofs.Dev
