/- Contracts of the functions of the program over slots and rows, each proved against the program itself; no condition beyond those that each theorem names. -/
import Derived.Test.YtlcoaglnegibkaaGreatU
import Derived.Test.YtlcoaglnegibkaaGreatW

set_option linter.unusedSimpArgs false
set_option linter.unusedVariables false

namespace Go.Proofs.Dev
set_option linter.unusedSimpArgs false
set_option maxRecDepth 100000

/-- Lists of numbers, as elements of a row: read alone, and owned. -/
def sls (c : Nat) (ps : List (List Int)) : List AV := ps.map fun p => .sl c 1 (ints p)
def oss (ps : List (List Int)) : List AV := ps.map fun p => .os 1 (ints p)
def pti (ps : List (List Int)) (i : Int) : List Int := ps.getD i.toNat []

@[simp] theorem sls_length (c : Nat) (ps : List (List Int)) : (sls c ps).length = ps.length := by simp [sls]
@[simp] theorem oss_length (ps : List (List Int)) : (oss ps).length = ps.length := by simp [oss]
@[simp] theorem sls_nil (c : Nat) : sls c [] = [] := (rfl)
@[simp] theorem oss_nil : oss [] = [] := (rfl)
@[simp] theorem sls_eq_nil (c : Nat) (ps : List (List Int)) : (sls c ps = []) = (ps = []) := by cases ps <;> simp [sls]
@[simp] theorem oss_eq_nil (ps : List (List Int)) : (oss ps = []) = (ps = []) := by cases ps <;> simp [oss]
theorem oss_append (a b : List (List Int)) : oss (a ++ b) = oss a ++ oss b := by simp [oss]
theorem oss_one (a : List Int) : oss [a] = [.os 1 (ints a)] := (rfl)
@[simp] theorem iadr_sls_ite {c d : Nat} {k : IntKind} {ps : List (List Int)} {i : Int} : aiadr 1 (.sl c 1 (sls d ps)) (.v (.int k i)) = if 0 ≤ i ∧ i < ps.length then some (.vp c [.sl d 1 (ints (pti ps i))] 0) else none := by
  by_cases h : 0 ≤ i ∧ i < ps.length
  · rw [if_pos h]
    have h1 : i.toNat < ps.length := by omega
    simp [aiadr, h.1, sls, pti, h1]
  · rw [if_neg h]
    by_cases h0 : 0 ≤ i
    · have : ¬ i.toNat < ps.length := by omega
      simp [aiadr, h0, sls, this]
    · simp [aiadr, h0]
@[simp] theorem vwL_sls (c d : Nat) : ∀ ps : List (List Int), vwL c (sls d ps) = sls c ps
  | [] => rfl
  | p :: ps => by
    show vw c (.sl d 1 (ints p)) :: vwL c (sls d ps) = .sl c 1 (ints p) :: sls c ps
    rw [vwL_sls c d ps]; simp
@[simp] theorem vwL_oss (c : Nat) : ∀ ps : List (List Int), vwL c (oss ps) = sls c ps
  | [] => rfl
  | p :: ps => by
    show vw c (.os 1 (ints p)) :: vwL c (oss ps) = .sl c 1 (ints p) :: sls c ps
    rw [vwL_oss c ps]; simp
@[simp] theorem okL_sls (c : Nat) : ∀ ps : List (List Int), okL (sls c ps) = true
  | [] => rfl
  | p :: ps => by show (okE (.sl c 1 (ints p)) && okL (sls c ps)) = true; rw [okL_sls c ps]; simp
@[simp] theorem okL_oss : ∀ ps : List (List Int), okL (oss ps) = true
  | [] => rfl
  | p :: ps => by show (okE (.os 1 (ints p)) && okL (oss ps)) = true; rw [okL_oss ps]; simp
theorem take_oss (n : Nat) (ps : List (List Int)) : (oss ps).take n = oss (ps.take n) := by simp [oss]
@[simp] theorem take_oss_all (ps : List (List Int)) : (oss ps).take ps.length = oss ps := by rw [take_oss, List.take_length]
theorem pti_get {ps : List (List Int)} {i : Nat} (h : i < ps.length) : pti ps i = ps[i] := by
  unfold pti; rw [Int.toNat_natCast, List.getD_eq_getElem?_getD, List.getElem?_eq_getElem h]; rfl
theorem pti_mem {ps : List (List Int)} {i : Nat} (h : i < ps.length) : pti ps i ∈ ps := by rw [pti_get h]; exact List.getElem_mem h
/-- A book's argument, and a book that is owned. -/
@[simp] def bkA (W T : Int) (cs : List Bool) (ds ls : List Int) (ps : List (List Int)) : AV := .agg [.v (.int .i64 W), .v (.int .i64 T), .sl 1 1 (bools cs), .sl 1 1 (ints ds), .sl 1 1 (ints ls), .sl 1 1 (sls 1 ps)]
@[simp] def bkO (W T : Int) (cs : List Bool) (ds ls : List Int) (ps : List (List Int)) : AV := .agg [.v (.int .i64 W), .v (.int .i64 T), .os 1 (bools cs), .os 1 (ints ds), .os 1 (ints ls), .os 1 (oss ps)]

end Go.Proofs.Dev

namespace Go.Proofs.Dev
set_option linter.unusedSimpArgs false
set_option maxRecDepth 100000

/-- A book that a closure reads. -/
@[simp] def bkP (W T : Int) (cs : List Bool) (ds ls : List Int) (ps : List (List Int)) : AV := .vp 1 [.v (.int .i64 W), .v (.int .i64 T), .sl 1 1 (bools cs), .sl 1 1 (ints ds), .sl 1 1 (ints ls), .sl 1 1 (sls 1 ps)] 0
end Go.Proofs.Dev

namespace Go.Proofs.Dev
set_option linter.unusedSimpArgs false
set_option maxRecDepth 100000

end Go.Proofs.Dev

namespace Go.Proofs.Dev
set_option linter.unusedSimpArgs false
set_option maxRecDepth 100000

/-- How many dominoes begin in a list. -/
def isDom (x : Int) : Bool := decide (x = 1) || decide (x = 2)
def domN (ls : List Int) : Nat := ls.countP isDom
theorem domN_succ {ls : List Int} {i : Nat} (h : i < ls.length) : domN (ls.take (i + 1)) = domN (ls.take i) + (if isDom (ati ls i) then 1 else 0) := by
  have e : ati ls i = ls[i] := by simp [ati, h]
  rw [e, List.take_succ_eq_append_getElem h, domN, List.countP_append, List.countP_singleton]
  rfl
theorem domN_le (ls : List Int) : domN ls ≤ ls.length := List.countP_le_length

theorem s_spec_CellsMany (W T : Int) (cs : List Bool) (hb : cs.length < 2 ^ 40) :
    SoundAt Tryz.prog n_spec_CellsMany [.agg [.v (.int .i64 W), .v (.int .i64 T), .sl 1 1 (bools cs)]] (.v (.int .i64 (if regB W T cs then manyOf cs else -1))) [.bot] := by
  refine fn_ok (md := md0) (ms := [false]) k_spec_CellsMany (by simp) ?_
  simp [c_spec_CellsMany]
  refine call_on (s_spec_RegionValid W T cs hb) ?_
  cases hr : regB W T cs with
  | false => simp
  | true =>
  simp
  refine call_on (s_spec_l1Count cs hb) ?_
  simp

theorem s_slices_Index (xs : List Int) (x : Int) (hl : xs.length < 2 ^ 40) :
    SoundAt Tryz.prog n_slices_Index_int_int [.sl 1 1 (ints xs), .v (.int .i64 x)] (.v (.int .i64 (firstI (fun k => decide (x = ati xs k)) xs.length))) [.bot, .bot] := by
  refine fn_ok (md := md0) (ms := [false, false]) k_slices_Index_int_int (by simp) ?_
  simp [c_slices_Index_int_int]
  refine loop_by (fun m E H => ∃ i : Nat, m = xs.length - i ∧ i ≤ xs.length ∧ (∀ k : Nat, k < i → decide (x = ati xs k) = false) ∧ H = [] ∧ E = [(0, .sl 1 1 (ints xs)), (1, .v (.int .i64 x)), (7, .v (.int .i64 xs.length)), (8, .v (.int .i64 i))]) xs.length ⟨0, by simp⟩ ?_
  rintro J hJ m E H ⟨i, rfl, hi, ha, rfl, rfl⟩
  by_cases h : i < xs.length
  case neg =>
    have : i = xs.length := by omega
    subst this
    have e : firstI (fun k => decide (x = ati xs k)) xs.length = -1 := firstI_none ha
    simp [c_slices_Index_int_int_L0, e]
  by_cases hx : x = ati xs i
  · have e : firstI (fun k => decide (x = ati xs k)) xs.length = i := firstI_hit h (decide_eq_true hx) ha
    simp [c_slices_Index_int_int_L0, h, e]
    exact fun n => absurd hx n
  · simp [c_slices_Index_int_int_L0, h, hx]
    refine ⟨by omega, _, by omega, hJ _ _ _ ⟨i + 1, rfl, h, ?_, rfl, rfl⟩⟩
    intro k hk
    rcases Nat.lt_or_ge k i with h1 | h1
    · exact ha k h1
    · have : k = i := by omega
      subst this; exact decide_eq_false hx

theorem s_slices_Contains12 (x : Int) :
    SoundAt Tryz.prog n_slices_Contains_int_int [.sl 1 1 (ints [1, 2]), .v (.int .i64 x)] (.v (.bool (isDom x))) [.bot, .bot] := by
  refine fn_ok (md := md0) (ms := [false, false]) k_slices_Contains_int_int (by simp) ?_
  simp [c_slices_Contains_int_int]
  refine call_on (s_slices_Index [1, 2] x (by simp)) ?_
  have e : decide (0 ≤ firstI (fun k : Nat => decide (x = ati [1, 2] k)) 2) = isDom x := by
    by_cases h1 : x = 1
    · rw [firstI_hit (k := 0) (by omega) (by simp [h1, ati]) (by omega)]; simp [isDom, h1]
    · by_cases h2 : x = 2
      · have h0 : ∀ j : Nat, j < 1 → decide (x = ati [1, 2] j) = false := by
          intro j hj
          have : j = 0 := by omega
          subst this
          simp [ati, h1]
        rw [firstI_hit (k := 1) (by omega) (by simp [h2, ati]) h0]
        simp [isDom, h2]
      · have h0 : ∀ j : Nat, j < 2 → decide (x = ati [1, 2] j) = false := by
          intro j hj
          have : j = 0 ∨ j = 1 := by omega
          rcases this with rfl | rfl <;> simp [ati, h1, h2]
        rw [firstI_none h0]
        simp [isDom, h1, h2]
  simp [e]

theorem s_impl_ways12 (ls : List Int) (hl : ls.length < 2 ^ 40) :
    SoundAt Tryz.prog n_impl_ways [.sl 1 1 (ints ls), .sl 1 1 (ints [1, 2])] (.v (.int .i64 (domN ls))) [.bot, .bot] := by
  refine fn_ok (md := md0) (ms := [false, false]) k_impl_ways (by simp) ?_
  simp [c_impl_ways]
  refine loop_by (fun m E H => ∃ i : Nat, m = ls.length - i ∧ i ≤ ls.length ∧ H = [] ∧ E = [(1, .sl 1 1 (ints [1, 2])), (5, .v (.int .i64 (domN (ls.take i)))), (8, .sl 1 1 (ints ls)), (9, .v (.int .i64 ls.length)), (10, .v (.int .i64 i))]) ls.length ⟨0, by simp [domN]⟩ ?_
  rintro J hJ m E H ⟨i, rfl, hi, rfl, rfl⟩
  by_cases h : i < ls.length
  case neg =>
    have : i = ls.length := by omega
    subst this
    simp [c_impl_ways_L0]
  have hs := domN_succ h
  have hle : domN (ls.take i) ≤ i := by have := domN_le (ls.take i); simp at this; omega
  have next : ∀ v : Int, v = domN (ls.take (i + 1)) → again J (ls.length - i) [(1, .sl 1 1 (ints [1, 2])), (5, .v (.int .i64 v)), (8, .sl 1 1 (ints ls)), (9, .v (.int .i64 ls.length)), (10, .v (.int .i64 (i + 1)))] [] := by
    rintro v rfl
    exact ⟨_, by omega, hJ _ _ _ ⟨i + 1, rfl, h, rfl, rfl⟩⟩
  simp [c_impl_ways_L0, h]
  refine call_on (s_slices_Contains12 (ati ls i)) ?_
  cases hd : isDom (ati ls i) with
  | true =>
    simp [hd] at hs
    simp
    exact ⟨by omega, by omega, next _ (by omega)⟩
  | false =>
    simp [hd] at hs
    simp
    exact ⟨by omega, next _ (by omega)⟩

end Go.Proofs.Dev

namespace Go.Proofs.Dev
set_option linter.unusedSimpArgs false
set_option maxRecDepth 100000

end Go.Proofs.Dev
