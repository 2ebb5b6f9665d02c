/- Contracts of the functions of the program over slots and rows, each proved against the program itself; no condition beyond those that each theorem names. -/
import Derived.Test.YtfkmfobbgoflgaaGreatDoorAR
import Derived.Test.YtfkmfobbgoflgaaGreatDoorAP
import Derived.Test.YtfkmfobbgoflgaaGreatDoorProg
import Derived.Test.YtfkmfobbgoflgaaGreatDoorAH
import Derived.Test.YtfkmfobbgoflgaaGreatDoorAI
set_option linter.unusedSimpArgs false
set_option linter.unusedVariables false
set_option maxRecDepth 100000
namespace Go.Proofs.Dev
def gy (W T : Int) (cs : List Bool) (ls : List Int) (cell way : Int) : List Int := if (Az W T cs && AO W T cs ls) = true then B9 W T cs ls cell way else []
def YU (W T : Int) (cs : List Bool) (ls : List Int) (cell way : Int) : Bool := Az W T cs && AO W T cs ls && BU W T cs ls cell way
theorem WQ (W T : Int) (cs : List Bool) (ls : List Int) (cell way : Int) (hb : cs.length < 2 ^ 40) (hl : ls.length < 2 ^ 40) :
  SoundAt Tryz.prog Pv [.agg [.v (.int .i64 W), .v (.int .i64 T), .sl 1 1 (AC cs)], .sl 1 1 (AB ls), .v (.int .i64 cell), .v (.int .i64 way)]
   (.tup [.os 1 (AB (gy W T cs ls cell way)), .v (.bool (YU W T cs ls cell way))]) [.bot, .bot, .bot, .bot] := by
 refine AE (md := md0) (ms := [false, false, false, false]) WP (by simp) ?_
 simp [Pw]
 refine AA (Km W T cs ls hb hl) ?_
 cases hp : (Az W T cs && AO W T cs ls) with
 | false =>
   have e1 : gy W T cs ls cell way = [] := by unfold gy; rw [hp]; rfl
   have e2 : YU W T cs ls cell way = false := by unfold YU; rw [hp]; rfl
   rw [e1, e2]; simp
 | true =>
 have e1 : gy W T cs ls cell way = B9 W T cs ls cell way := by unfold gy; rw [hp]; rfl
 have e2 : YU W T cs ls cell way = BU W T cs ls cell way := by unfold YU; rw [hp]; rfl
 rw [e1, e2]
 have h2 := hp
 simp only [AO, Bool.and_eq_true, decide_eq_true_eq] at h2
 simp
 refine AA (Dd W T cs ls cell way h2.1 h2.2.1) ?_
 cases hf : BU W T cs ls cell way with
 | false =>
   simp [B9, hf]
   refine AA (Ag ls hl) ?_
   simp
 | true =>
   simp [B9, hf]
   refine AA (Cv W T cs ls cell way h2.1 h2.2.1 hf) ?_
   simp
def ET (ls : List Int) (cell : Int) : Bool := decide (0 ≤ cell ∧ cell < ls.length ∧ ati ls cell ≠ 0)
def Rn (W T : Int) (cs : List Bool) (ls : List Int) (cell : Int) : List Int := if (Az W T cs && AO W T cs ls) = true then (if ET ls cell = true then Kl W T ls cell else ls) else []
def LK (W T : Int) (cs : List Bool) (ls : List Int) (cell : Int) : Bool := Az W T cs && AO W T cs ls && ET ls cell
theorem Py (W T : Int) (cs : List Bool) (ls : List Int) (k : Nat) (hr : Az W T cs = true) (hy : AO W T cs ls = true) (hk : k < ls.length) (hv : ati ls k ≠ 0) :
  SoundAt Tryz.prog JN [.agg [.v (.int .i64 W), .v (.int .i64 T), .sl 1 1 (AC cs)], .sl 1 1 (AB ls), .v (.int .i64 k)] (.os 1 (AB (Kl W T ls k))) [.bot, .bot, .bot] := by
 refine AE (md := md0) (ms := [false, false, false]) Px (by simp) ?_
 have h36 := AZ hr
 have hl := An hy
 obtain ⟨t, e, ht, htk, _⟩ := WO hr hy hk hv
 have eL : Kl W T ls k = (ls.set t 0).set k 0 := by unfold Kl; rw [e]; simp
 rw [eL]
 simp [JO]
 refine AA (Ag ls (by omega)) ?_
 have one := CO W T cs k (ati ls k) hr (by omega) (by omega)
 rw [e] at one
 simp [hk]
 (repeat' first | assumption | omega | apply And.intro) <;>
 ·refine AA one ?_
  have htk2 : (AB ((ls.set t 0).set k 0)).take ls.length = AB ((ls.set t 0).set k 0) := List.take_of_length_le (by simp)
  simp [ht, hk, EA, Gk, htk2]
theorem UW (W T : Int) (cs : List Bool) (ls : List Int) (cell : Int) (hb : cs.length < 2 ^ 40) (hl : ls.length < 2 ^ 40) :
  SoundAt Tryz.prog Nf [.agg [.v (.int .i64 W), .v (.int .i64 T), .sl 1 1 (AC cs)], .sl 1 1 (AB ls), .v (.int .i64 cell)]
   (.tup [.os 1 (AB (Rn W T cs ls cell)), .v (.bool (LK W T cs ls cell))]) [.bot, .bot, .bot] := by
 refine AE (md := md0) (ms := [false, false, false]) UV (by simp) ?_
 simp [Ng]
 refine AA (Km W T cs ls hb hl) ?_
 cases hp : (Az W T cs && AO W T cs ls) with
 | false =>
   have e1 : Rn W T cs ls cell = [] := by unfold Rn; rw [hp]; rfl
   have e2 : LK W T cs ls cell = false := by unfold LK; rw [hp]; rfl
   rw [e1, e2]; simp
 | true =>
 have e1 : Rn W T cs ls cell = if ET ls cell = true then Kl W T ls cell else ls := by unfold Rn; rw [hp]; rfl
 have e2 : LK W T cs ls cell = ET ls cell := by unfold LK; rw [hp]; rfl
 rw [e1, e2]
 have h2 := hp
 simp only [Bool.and_eq_true] at h2
 have hlc := An h2.2
 simp
 refine AA (F8 W T cs cell hb) ?_
 by_cases hc : 0 ≤ cell ∧ cell < cs.length
 case neg =>
  have hc2 : ET ls cell = false := decide_eq_false (fun x => hc ⟨x.1, by omega⟩)
  simp [hc, hc2]
  refine AA (Ag ls hl) ?_
  simp
 obtain ⟨k, rfl⟩ : ∃ k : Nat, cell = k := ⟨cell.toNat, by omega⟩
 have hk : k < ls.length := by omega
 have hk2 : k < cs.length := by omega
 by_cases hz : ati ls k = 0
 ·have hc2 : ET ls k = false := decide_eq_false (fun x => x.2.2 hz)
  simp [hk, hk2, hz, hc2]
  refine AA (Ag ls hl) ?_
  simp
 ·have hc2 : ET ls k = true := decide_eq_true ⟨by omega, by omega, hz⟩
  simp [hk, hk2, hz, hc2]
  refine AA (Py W T cs ls k h2.1 h2.2 hk hz) ?_
  simp
@[simp] def md5 (f : Nat) : List Bool := if f = 54 ∨ f = 45 ∨ f = 254 ∨ f = 255 ∨ f = 220 ∨ f = 999999 ∨ f = 163 ∨ f = 118 then [true, false] else if f = 999999 ∨ f = 999999 ∨ f = 43 ∨ f = 999999 ∨ f = 999999 ∨ f = 999999 ∨ f = 999999 ∨ f = 999999 ∨ f = 999999 ∨ f = 999999 ∨ f = 999999 ∨ f = 999999 ∨ f = 999999 ∨ f = 999999 then [true] else if f = 999999 then [false, true] else md0 f
def rdC (bs : List Int) (p : Nat) : List AV := [.sl 0 1 (u8s bs), .v (.int .i64 p)]
def rdA (bs : List Int) (p : Nat) : AV := .op (rdC bs p)
attribute [simp] Z2 rdA rdC
end Go.Proofs.Dev
