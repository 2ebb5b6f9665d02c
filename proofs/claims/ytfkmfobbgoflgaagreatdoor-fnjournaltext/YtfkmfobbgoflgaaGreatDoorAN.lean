/- Contracts of the functions of the program over slots and rows, each proved against the program itself; no condition beyond those that each theorem names. -/
import Derived.Test.YtfkmfobbgoflgaaGreatDoorAM
import Derived.Test.YtfkmfobbgoflgaaGreatDoorProg
import Derived.Test.YtfkmfobbgoflgaaGreatDoorAI
import Derived.Test.YtfkmfobbgoflgaaGreatDoorAL

set_option linter.unusedSimpArgs false
set_option linter.unusedVariables false

namespace Go.Proofs.Dev
set_option linter.unusedSimpArgs false
set_option maxRecDepth 100000

def zeros (ls : List Int) : Nat := ls.countP (fun x => decide (x = 0))

theorem zeros_set_le {ls : List Int} {i : Nat} {v : Int} (hv : v ≠ 0) : zeros (ls.set i v) ≤ zeros ls := by
  by_cases h : i < ls.length
  · unfold zeros
    rw [List.countP_set h]
    simp [hv]
  · rw [List.set_eq_of_length_le (by omega)]; exact Nat.le_refl _
theorem zeros_set_lt {ls : List Int} {i : Nat} {v : Int} (h : i < ls.length) (hz : ati ls i = 0) (hv : v ≠ 0) : zeros (ls.set i v) < zeros ls := by
  have he : ls[i] = 0 := by simpa [ati, h] using hz
  have hp : 0 < zeros ls := by
    unfold zeros
    rw [List.countP_pos_iff]
    exact ⟨ls[i], List.getElem_mem h, by simp [he]⟩
  unfold zeros at hp ⊢
  rw [List.countP_set h]
  simp [hv, he]
  omega

def forceAllN (W T : Int) (cs : List Bool) (ds : List Int) : Nat → List Int → List Int
  | 0, ls => ls
  | n + 1, ls => if force1B W T cs ds ls then forceAllN W T cs ds n (force1 W T cs ds ls) else ls

theorem force1_zeros {W T : Int} {cs : List Bool} {ds ls : List Int} (h : force1B W T cs ds ls = true) : zeros (force1 W T cs ds ls) < zeros ls := by
  rcases one_cases W T cs ds ls with h1 | ⟨k, hk, he, hc, hz, hol, hob, hw⟩
  · simp [force1B, h1] at h
  · rw [force1, he, if_neg (by omega)]
    have hb : backI (wayI W T cs ds ls) ≠ 0 := by
      have := (backI_back hw.1 hw.2).2
      omega
    refine Nat.lt_of_le_of_lt (zeros_set_le hb) ?_
    exact zeros_set_lt (by omega) (by simpa using hz) (by omega)

theorem force1_fair {W T : Int} {cs : List Bool} {ds ls : List Int} (hf : fairB W T cs ds ls = true) : fairB W T cs ds (force1 W T cs ds ls) = true := by
  rcases one_cases W T cs ds ls with h1 | ⟨k, hk, he, hc, hz, hol, hob, hw⟩
  · simp [force1, h1, hf]
  · rw [force1, he, if_neg (by omega)]
    exact optB_fair (fairB_ok hf) hob

def forceAllI (W T : Int) (cs : List Bool) (ds ls : List Int) : List Int := forceAllN W T cs ds ls.length ls
def forceAllL (W T : Int) (cs : List Bool) (ds ls : List Int) : List Int := if fairB W T cs ds ls then forceAllI W T cs ds ls else []
theorem forceAllN_length (W T : Int) (cs : List Bool) (ds : List Int) : ∀ (n : Nat) (ls : List Int), (forceAllN W T cs ds n ls).length = ls.length
  | 0, ls => rfl
  | n + 1, ls => by
    rw [forceAllN]; split
    · rw [forceAllN_length, force1_length]
    · rfl
theorem zeros_le (ls : List Int) : zeros ls ≤ ls.length := List.countP_le_length

/-- One step of forcing, at a count that is enough. -/
theorem forceAllN_step {W T : Int} {cs : List Bool} {ds ls : List Int} {n : Nat} (hn : zeros ls ≤ n) :
    (force1B W T cs ds ls = false ∧ forceAllN W T cs ds n ls = ls) ∨ (∃ m, n = m + 1 ∧ force1B W T cs ds ls = true ∧ zeros (force1 W T cs ds ls) ≤ m ∧ forceAllN W T cs ds n ls = forceAllN W T cs ds m (force1 W T cs ds ls)) := by
  cases hb : force1B W T cs ds ls with
  | false =>
    left
    refine ⟨rfl, ?_⟩
    cases n with
    | zero => rfl
    | succ m => simp [forceAllN, hb]
  | true =>
    right
    have hz := force1_zeros hb
    cases n with
    | zero => omega
    | succ m => exact ⟨m, rfl, rfl, by omega, by simp [forceAllN, hb]⟩

theorem s_spec_ForceAll (W T : Int) (cs : List Bool) (ds ls : List Int) (hb : cs.length < 2 ^ 40) (hd : ds.length < 2 ^ 40) (hl : ls.length < 2 ^ 40) :
    SoundAt Tryz.prog n_spec_ForceAll [.agg [.v (.int .i64 W), .v (.int .i64 T), .sl 1 1 (bools cs)], .sl 1 1 (ints ds), .sl 1 1 (ints ls)] (.os 1 (ints (forceAllL W T cs ds ls))) [.bot, .bot, .bot] := by
  refine fn_ok (md := md0) (ms := [false, false, false]) k_spec_ForceAll (by simp) ?_
  simp [c_spec_ForceAll]
  refine call_on (s_spec_FairOk W T cs ds ls hb hd hl) ?_
  cases hf : fairB W T cs ds ls with
  | false => simp [forceAllL, hf]
  | true =>
  simp
  refine ⟨by omega, ?_⟩
  refine loop_by (fun m E H => ∃ l, zeros l ≤ m ∧ l.length = ls.length ∧ fairB W T cs ds l = true ∧ forceAllN W T cs ds m l = forceAllI W T cs ds ls ∧ H = [some (.box [.v (.int .i64 W), .v (.int .i64 T), .sl 1 1 (bools cs)]), some (.arr 1 (ints l))] ∧
    E = [(1, .sl 1 1 (ints ds)), (3, .lp 0 0 0 0), (7, .ls 1 1 0 ls.length)]) ls.length ⟨ls, zeros_le ls, rfl, hf, rfl, by simp⟩ ?_
  rintro J hJ m E H ⟨l, hz, hll, hfl, hn, rfl, rfl⟩
  have one := s_spec_ForceOne W T cs ds l hb hd (by omega)
  have eL : forceL W T cs ds l = force1 W T cs ds l := by simp [forceL, hfl]
  have eB : forceB W T cs ds l = force1B W T cs ds l := by simp [forceB, hfl]
  rw [eL, eB] at one
  have hfl2 := force1_fair hfl
  have h1 := force1_length W T cs ds l
  have htk : (ints (force1 W T cs ds l)).take ls.length = ints (force1 W T cs ds l) := List.take_of_length_le (by simp [h1, hll])
  have htl : (ints l).take ls.length = ints l := List.take_of_length_le (by simp [hll])
  simp [c_spec_ForceAll_L0, htl]
  refine call_on one ?_
  rcases forceAllN_step (W := W) (T := T) (cs := cs) (ds := ds) hz with ⟨hbb, hx⟩ | ⟨k, rfl, hbb, hz2, hx⟩
  · simp [hbb, h1, hll, htk, htl, forceAllL, hf, ← hn, hx]
  · simp [hbb, h1, hll, htk, htl]
    exact ⟨_, by omega, hJ _ _ _ ⟨force1 W T cs ds l, hz2, by omega, hfl2, by rw [← hx, hn], rfl, rfl⟩⟩

end Go.Proofs.Dev

namespace Go.Proofs.Dev

-- 1 parameters, results [.t 2], 35 slots, modes [false]
@[simp] abbrev n_spec_BookValid : Nat := 18
abbrev c_spec_BookValid_L0_p0 : Plan := .al (.o 20 (.call 59 []) [.t 12, .t 14, .t 19]) ( .take (.o 21 (.un .not) [.t 20]) <| .done)
abbrev c_spec_BookValid_L0_p1 : Plan := .al (.l 16 15) ( .take (.o 18 (.iadr 1) [.t 16, .t 17]) <| .al (.l 19 18) c_spec_BookValid_L0_p0)
def c_spec_BookValid_L0 : ACode := .seq (.seq (.reg [.m 4 3, .f 5 5 1, .l 6 5, .n 7 6, .o 8 (.bin .lss 0) [.t 4, .t 7]]) <| .cond (.t 8) ( .skip) ( .exit 0)) <|
 .seq (.block 1 ( .seq (.draw ( .take (.f 11 0 1) <| .take (.f 13 3 1) <| .take (.f 15 5 1) <| .take (.m 17 3) <|
 .alt (.la 12 3 11) ( .alt (.l 14 13) c_spec_BookValid_L0_p1 <| .al (.l 16 15) ( .take (.o 18 (.iadr 1) [.t 16, .t 17]) <|
 .alt (.l 14 13) ( .al (.l 19 18) c_spec_BookValid_L0_p0) <|
 .al (.l 19 18) ( .al (.l 14 13) c_spec_BookValid_L0_p0))) <|
 .alt (.l 14 13) ( .alt (.la 12 3 11) c_spec_BookValid_L0_p1 <| .al (.l 16 15) ( .take (.o 18 (.iadr 1) [.t 16, .t 17]) <|
 .alt (.la 12 3 11) ( .al (.l 19 18) c_spec_BookValid_L0_p0) <|
 .al (.l 19 18) ( .al (.la 12 3 11) c_spec_BookValid_L0_p0))) <|
 .al (.l 16 15) ( .take (.o 18 (.iadr 1) [.t 16, .t 17]) <| .alt (.la 12 3 11) ( .alt (.l 14 13) ( .al (.l 19 18) c_spec_BookValid_L0_p0) <| .al (.l 19 18) ( .al (.l 14 13) c_spec_BookValid_L0_p0)) <| .alt (.l 14 13) ( .alt (.la 12 3 11) ( .al (.l 19 18) c_spec_BookValid_L0_p0) <| .al (.l 19 18) ( .al (.la 12 3 11) c_spec_BookValid_L0_p0)) <| .al (.l 19 18) ( .alt (.la 12 3 11) ( .al (.l 14 13) c_spec_BookValid_L0_p0) <| .al (.l 14 13) ( .al (.la 12 3 11) c_spec_BookValid_L0_p0))))) <| .cond (.t 21) ( .seq (.reg [.o 2 .mv [.kb false]]) <| .ret) ( .skip))) <| .reg [.m 9 3,
 .o 10 (.bin .add 0) [.t 9, .k 1], .m 3 10]

def c_spec_BookValid : ACode := .seq (.reg [.o 1 .box [.t 0], .o 2 .mv [.kb false]]) <| .seq (.seq (.reg [.o 3 .mv [.k 0]]) <| .block 0 ( .loop [] [1,
 3] c_spec_BookValid_L0)) <| .seq (.reg [.f 22 0 1, .la 23 3 22, .f 24 3 1, .l 25 24, .f 26 4 1, .l 27 26, .o 28 (.call 59 []) [.t 23, .t 25, .t 27], .m 29 28,
 .fg 30 5 1 29 true, .lg 31 30 29 true, .g 32 (.len false) [.t 31] 29 true, .g 33 (.bin .leq 0) [.t 32, .k 20] 29 true, .o 34 .pick [.t 29, .t 33, .kb false],
 .m 2 34]) <| .ret

theorem k_spec_BookValid : cFn Tryz.prog n_spec_BookValid 35 [.t 2] c_spec_BookValid := ⟨Tryz.f18, _, Tryz.func18, rfl, by kernel_rfl, by kernel_rfl, by kernel_rfl, by kernel_rfl⟩

end Go.Proofs.Dev

namespace Go.Proofs.Dev
set_option linter.unusedSimpArgs false
set_option maxRecDepth 100000

/-- Lists of numbers, as elements of a row: read alone, and owned. -/
def sls (c : Nat) (ps : List (List Int)) : List AV := ps.map fun p => .sl c 1 (ints p)
def oss (ps : List (List Int)) : List AV := ps.map fun p => .os 1 (ints p)
def pti (ps : List (List Int)) (i : Int) : List Int := ps.getD i.toNat []

@[simp] theorem sls_length (c : Nat) (ps : List (List Int)) : (sls c ps).length = ps.length := by simp [sls]
@[simp] theorem oss_length (ps : List (List Int)) : (oss ps).length = ps.length := by simp [oss]
@[simp] theorem sls_nil (c : Nat) : sls c [] = [] := (rfl)
@[simp] theorem oss_nil : oss [] = [] := (rfl)
@[simp] theorem sls_eq_nil (c : Nat) (ps : List (List Int)) : (sls c ps = []) = (ps = []) := by cases ps <;> simp [sls]
@[simp] theorem oss_eq_nil (ps : List (List Int)) : (oss ps = []) = (ps = []) := by cases ps <;> simp [oss]
theorem oss_append (a b : List (List Int)) : oss (a ++ b) = oss a ++ oss b := by simp [oss]
theorem oss_one (a : List Int) : oss [a] = [.os 1 (ints a)] := (rfl)
@[simp] theorem iadr_sls_ite {c d : Nat} {k : IntKind} {ps : List (List Int)} {i : Int} : aiadr 1 (.sl c 1 (sls d ps)) (.v (.int k i)) = if 0 ≤ i ∧ i < ps.length then some (.vp c [.sl d 1 (ints (pti ps i))] 0) else none := by
  by_cases h : 0 ≤ i ∧ i < ps.length
  · rw [if_pos h]
    have h1 : i.toNat < ps.length := by omega
    simp [aiadr, h.1, sls, pti, h1]
  · rw [if_neg h]
    by_cases h0 : 0 ≤ i
    · have : ¬ i.toNat < ps.length := by omega
      simp [aiadr, h0, sls, this]
    · simp [aiadr, h0]
@[simp] theorem vwL_sls (c d : Nat) : ∀ ps : List (List Int), vwL c (sls d ps) = sls c ps
  | [] => rfl
  | p :: ps => by
    show vw c (.sl d 1 (ints p)) :: vwL c (sls d ps) = .sl c 1 (ints p) :: sls c ps
    rw [vwL_sls c d ps]; simp
@[simp] theorem vwL_oss (c : Nat) : ∀ ps : List (List Int), vwL c (oss ps) = sls c ps
  | [] => rfl
  | p :: ps => by
    show vw c (.os 1 (ints p)) :: vwL c (oss ps) = .sl c 1 (ints p) :: sls c ps
    rw [vwL_oss c ps]; simp
@[simp] theorem okL_sls (c : Nat) : ∀ ps : List (List Int), okL (sls c ps) = true
  | [] => rfl
  | p :: ps => by show (okE (.sl c 1 (ints p)) && okL (sls c ps)) = true; rw [okL_sls c ps]; simp
@[simp] theorem okL_oss : ∀ ps : List (List Int), okL (oss ps) = true
  | [] => rfl
  | p :: ps => by show (okE (.os 1 (ints p)) && okL (oss ps)) = true; rw [okL_oss ps]; simp
theorem take_oss (n : Nat) (ps : List (List Int)) : (oss ps).take n = oss (ps.take n) := by simp [oss]
@[simp] theorem take_oss_all (ps : List (List Int)) : (oss ps).take ps.length = oss ps := by rw [take_oss, List.take_length]
theorem pti_get {ps : List (List Int)} {i : Nat} (h : i < ps.length) : pti ps i = ps[i] := by
  unfold pti; rw [Int.toNat_natCast, List.getD_eq_getElem?_getD, List.getElem?_eq_getElem h]; rfl
theorem pti_mem {ps : List (List Int)} {i : Nat} (h : i < ps.length) : pti ps i ∈ ps := by rw [pti_get h]; exact List.getElem_mem h
/-- A book's argument, and a book that is owned. -/
@[simp] def bkA (W T : Int) (cs : List Bool) (ds ls : List Int) (ps : List (List Int)) : AV := .agg [.v (.int .i64 W), .v (.int .i64 T), .sl 1 1 (bools cs), .sl 1 1 (ints ds), .sl 1 1 (ints ls), .sl 1 1 (sls 1 ps)]
@[simp] def bkO (W T : Int) (cs : List Bool) (ds ls : List Int) (ps : List (List Int)) : AV := .agg [.v (.int .i64 W), .v (.int .i64 T), .os 1 (bools cs), .os 1 (ints ds), .os 1 (ints ls), .os 1 (oss ps)]

end Go.Proofs.Dev

namespace Go.Proofs.Dev
end Go.Proofs.Dev

namespace Go.Proofs.Dev
set_option linter.unusedSimpArgs false
set_option maxRecDepth 100000

@[simp] def deedV (kind spot way : Int) : AV := .agg [.v (.int .i64 kind), .v (.int .i64 spot), .v (.int .i64 way)]
attribute [simp] anil
def rawL (us : List Value) : List AV := us.map AV.v
@[simp] theorem rawL_length (us : List Value) : (rawL us).length = us.length := by simp [rawL]
@[simp] def mdo (f : Nat) : List Bool := if f = 65 then [true, false] else []
@[simp] def boxO (W T : Int) (cs : List Bool) (ds ls : List Int) (ps : List (List Int)) : AV := .op [.v (.int .i64 W), .v (.int .i64 T), .os 1 (bools cs), .os 1 (ints ds), .os 1 (ints ls), .os 1 (oss ps)]

end Go.Proofs.Dev

namespace Go.Proofs.Dev
set_option linter.unusedSimpArgs false
set_option maxRecDepth 100000

def bkPast (ls : List Int) (ps : List (List Int)) : List (List Int) := (ps ++ [ls]).drop (ps.length + 1 - 20)

end Go.Proofs.Dev

namespace Go.Proofs.Dev
set_option linter.unusedSimpArgs false
set_option maxRecDepth 100000

/-- What do gives: whether it is done, what is laid, what is past. -/
def doRes (named : Bool) (kind : Int) (ls : List Int) (ps : List (List Int)) (n : List Int) (b : Bool) : Bool × List Int × List (List Int) :=
  if named = false then (false, ls, ps) else
  if kind = 4 then (match ps.getLast? with | some q => (true, q, ps.dropLast) | none => (false, ls, ps)) else
  if b then (true, n, bkPast ls ps) else (false, ls, ps)

end Go.Proofs.Dev

namespace Go.Proofs.Dev
set_option linter.unusedSimpArgs false
set_option maxRecDepth 100000

end Go.Proofs.Dev

namespace Go.Proofs.Dev
set_option linter.unusedSimpArgs false
set_option maxRecDepth 100000

@[simp] def md3 (f : Nat) : List Bool := if f = 999999 then [true, false] else if f = n_slices_Clip_impl_Deed_impl_Deed then [true] else md0 f

def deedA (d : Int × Int × Int) : AV := .agg [.v (.int .i64 d.1), .v (.int .i64 d.2.1), .v (.int .i64 d.2.2)]
def dsA (xs : List (Int × Int × Int)) : List AV := xs.map deedA
@[simp] theorem dsA_length (xs : List (Int × Int × Int)) : (dsA xs).length = xs.length := by simp [dsA]
@[simp] theorem dsA_nil : dsA [] = [] := rfl
theorem dsA_append (a b : List (Int × Int × Int)) : dsA (a ++ b) = dsA a ++ dsA b := by simp [dsA]
theorem dsA_get {xs : List (Int × Int × Int)} {i : Nat} (h : i < xs.length) : (dsA xs)[i]? = some (deedA xs[i]) := by simp [dsA, h]
@[simp] theorem dsA_getE {xs : List (Int × Int × Int)} {i : Nat} (h : i < (dsA xs).length) : (dsA xs)[i] = deedA (xs[i]'(by simpa using h)) := by simp [dsA]

def deedC (d : Int × Int × Int) : List AV := [.v (.int .i64 d.1), .v (.int .i64 d.2.1), .v (.int .i64 d.2.2)]
theorem aiadr_ds {c : Nat} {k : IntKind} {xs : List (Int × Int × Int)} {i : Nat} (h : i < xs.length) : aiadr 3 (.sl c 3 (dsA xs)) (.v (.int k (i : Int))) = some (.vp c (deedC xs[i]) 0) := by
  rw [aiadr_sl (dsA_get h)]; rfl

def marks3 (n : Nat) (k : Int) : List (Int × Int × Int) := (List.range n).map fun j : Nat => (k + 3 * j, k + 3 * j + 1, k + 3 * j + 2)
@[simp] theorem marks3_length (n : Nat) (k : Int) : (marks3 n k).length = n := by simp [marks3]
theorem dsA_get' {xs : List (Int × Int × Int)} {i : Nat} (h : i < xs.length) : (dsA xs)[i]? = some (.agg [.v (.int .i64 xs[i].1), .v (.int .i64 xs[i].2.1), .v (.int .i64 xs[i].2.2)]) := dsA_get h
end Go.Proofs.Dev

namespace Go.Proofs.Dev
set_option linter.unusedSimpArgs false
set_option maxRecDepth 100000

abbrev Deed := Int × Int × Int
end Go.Proofs.Dev

namespace Go.Proofs.Dev
end Go.Proofs.Dev

namespace Go.Proofs.Dev
set_option linter.unusedSimpArgs false
set_option maxRecDepth 100000

end Go.Proofs.Dev
