/- Contracts of the functions of the program over slots and rows, each proved against the program itself; no condition beyond those that each theorem names. -/
import Derived.Test.YtfeaicblocbapaaGreatG
import Derived.Test.YtfeaicblocbapaaGreatAM
import Derived.Test.YtfeaicblocbapaaGreatAK

set_option linter.unusedSimpArgs false
set_option linter.unusedVariables false

namespace Go.Proofs.Dev
set_option linter.unusedSimpArgs false
set_option maxRecDepth 100000

@[simp] def md3 (f : Nat) : List Bool := if f = n_laws_markDeedS then [true, false] else if f = n_slices_Clip_impl_Deed_impl_Deed then [true] else md0 f

def deedA (d : Int × Int × Int) : AV := .agg [.v (.int .i64 d.1), .v (.int .i64 d.2.1), .v (.int .i64 d.2.2)]
def dsA (xs : List (Int × Int × Int)) : List AV := xs.map deedA
@[simp] theorem dsA_length (xs : List (Int × Int × Int)) : (dsA xs).length = xs.length := by simp [dsA]
@[simp] theorem dsA_nil : dsA [] = [] := rfl
theorem dsA_append (a b : List (Int × Int × Int)) : dsA (a ++ b) = dsA a ++ dsA b := by simp [dsA]
theorem dsA_get {xs : List (Int × Int × Int)} {i : Nat} (h : i < xs.length) : (dsA xs)[i]? = some (deedA xs[i]) := by simp [dsA, h]
@[simp] theorem dsA_getE {xs : List (Int × Int × Int)} {i : Nat} (h : i < (dsA xs).length) : (dsA xs)[i] = deedA (xs[i]'(by simpa using h)) := by simp [dsA]

def deedC (d : Int × Int × Int) : List AV := [.v (.int .i64 d.1), .v (.int .i64 d.2.1), .v (.int .i64 d.2.2)]
theorem aiadr_ds {c : Nat} {k : IntKind} {xs : List (Int × Int × Int)} {i : Nat} (h : i < xs.length) : aiadr 3 (.sl c 3 (dsA xs)) (.v (.int k (i : Int))) = some (.vp c (deedC xs[i]) 0) := by
  rw [aiadr_sl (dsA_get h)]; rfl

theorem s_laws_eqDeed (a b : Int × Int × Int) : SoundAt Tryz.prog n_laws_eqDeed [deedA a, deedA b] (.v (.bool (decide (a = b)))) [.bot, .bot] := by
  obtain ⟨a1, a2, a3⟩ := a
  obtain ⟨b1, b2, b3⟩ := b
  refine fn_ok (md := md3) (ms := [false, false]) k_laws_eqDeed (by simp [deedA]) ?_
  simp [c_laws_eqDeed, deedA]
  by_cases h1 : a1 = b1 <;> by_cases h2 : a2 = b2 <;> by_cases h3 : a3 = b3 <;> simp [h1, h2, h3]

theorem s_laws_eqDeedS (xs ys : List (Int × Int × Int)) (ha : xs.length < 2 ^ 40) :
    SoundAt Tryz.prog n_laws_eqDeedS [.sl 1 3 (dsA xs), .sl 1 3 (dsA ys)] (.v (.bool (decide (xs = ys)))) [.bot, .bot] := by
  refine fn_ok (md := md3) (ms := [false, false]) k_laws_eqDeedS (by simp) ?_
  simp [c_laws_eqDeedS]
  refine ⟨fun h => ?_, fun hl => ?_⟩
  · intro e; subst e; exact h rfl
  refine loop_by (fun m E H => ∃ i : Nat, m = xs.length - i ∧ i ≤ xs.length ∧ xs.take i = ys.take i ∧ H = [] ∧ E = [(0, .sl 1 3 (dsA xs)), (1, .sl 1 3 (dsA ys)), (5, .v (.int .i64 i))]) xs.length ⟨0, by simp⟩ ?_
  rintro J hJ m E H ⟨i, rfl, hi, he, rfl, rfl⟩
  simp [c_laws_eqDeedS_L0]
  refine ⟨fun h => ?_, fun h => ?_⟩
  · have h2 : i < ys.length := by omega
    simp [h, h2, aiadr_ds, deedC]
    have key : xs[i] = ys[i] → xs.take (i + 1) = ys.take (i + 1) := by
      intro e
      rw [List.take_succ_eq_append_getElem h, List.take_succ_eq_append_getElem h2, he, e]
    have key2 : ¬ (xs[i] = ys[i]) → xs ≠ ys := fun e e2 => e (by subst e2; rfl)
    refine ⟨?_, ?_⟩ <;>
    · refine call_on (s_laws_eqDeed xs[i] ys[i]) ?_
      by_cases e : xs[i] = ys[i]
      · simp [e, deedA]
        exact ⟨by omega, _, by omega, hJ _ _ _ ⟨i + 1, rfl, h, key e, rfl, rfl⟩⟩
      · simp [e, deedA]
        exact key2 e
  · have h1 : i = xs.length := by omega
    subst h1
    rw [List.take_length] at he
    rw [he]
    exact List.take_of_length_le (by omega)

def marks3 (n : Nat) (k : Int) : List (Int × Int × Int) := (List.range n).map fun j : Nat => (k + 3 * j, k + 3 * j + 1, k + 3 * j + 2)
@[simp] theorem marks3_length (n : Nat) (k : Int) : (marks3 n k).length = n := by simp [marks3]
theorem dsA_set (xs : List (Int × Int × Int)) (i : Nat) (d : Int × Int × Int) : (dsA xs).set i (deedA d) = dsA (xs.set i d) := by simp [dsA, List.map_set]
theorem dsA_set' (xs : List (Int × Int × Int)) (i : Nat) (a b c : Int) : (dsA xs).set i (.agg [.v (.int .i64 a), .v (.int .i64 b), .v (.int .i64 c)]) = dsA (xs.set i (a, b, c)) := dsA_set xs i (a, b, c)
theorem dsA_get' {xs : List (Int × Int × Int)} {i : Nat} (h : i < xs.length) : (dsA xs)[i]? = some (.agg [.v (.int .i64 xs[i].1), .v (.int .i64 xs[i].2.1), .v (.int .i64 xs[i].2.2)]) := dsA_get h
theorem marks3_step {k : Int} {bs : List (Int × Int × Int)} {i : Nat} (h : i < bs.length) : (marks3 i k ++ bs.drop i).set i (k + 3 * (i : Nat), k + 3 * (i : Nat) + 1, k + 3 * (i : Nat) + 2) = marks3 (i + 1) k ++ bs.drop (i + 1) := by
  rw [set_mid _ _ _ _ (by simp) h]
  simp [marks3, List.range_succ]

theorem s_laws_markDeedS (bs : List (Int × Int × Int)) (k : Int) (h0 : 0 ≤ k) (h1 : k < 2 ^ 40) (hb : bs.length < 2 ^ 40) :
    SoundAt Tryz.prog n_laws_markDeedS [.os 3 (dsA bs), .v (.int .i64 k)] (.v (.int .i64 (k + 3 * bs.length))) [.os 3 (dsA (marks3 bs.length k)), .bot] := by
  refine fn_ok (md := md3) (ms := [true, false]) k_laws_markDeedS (by simp) ?_
  simp [c_laws_markDeedS]
  refine loop_by (fun m E H => ∃ i : Nat, m = bs.length - i ∧ i ≤ bs.length ∧ H = [some (.arr 3 (dsA (marks3 i k ++ bs.drop i)))] ∧ E = [(0, .ls 3 0 0 bs.length), (1, .v (.int .i64 (k + 3 * i))), (5, .v (.int .i64 i)), (34, .ls 3 0 0 bs.length)]) bs.length ⟨0, by simp [marks3]⟩ ?_
  rintro J hJ m E H ⟨i, rfl, hi, rfl, rfl⟩
  have hlen : (marks3 i k ++ bs.drop i).length = bs.length := by simp; omega
  by_cases h : i < bs.length
  · have st := marks3_step (k := k) h
    generalize marks3 i k ++ bs.drop i = ys at *
    simp [c_laws_markDeedS_L0, h, hlen, dsA_set', dsA_get', deedA]
    refine ⟨by omega, by omega, by omega, by omega, _, by omega, hJ _ _ _ ⟨i + 1, rfl, h, ?_, ?_⟩⟩
    · rw [show k + 3 * (i : Int) + 1 + 1 = k + 3 * (i : Int) + 2 by omega, st]
    · simp; omega
  · have : i = bs.length := by omega
    subst this
    simp [c_laws_markDeedS_L0]

theorem s_laws_heldDeedS (n : Nat) (k : Int) (h0 : 0 ≤ k) (h1 : k < 2 ^ 40) (hb : n < 2 ^ 40) :
    SoundAt Tryz.prog n_laws_heldDeedS [.sl 1 3 (dsA (marks3 n k)), .v (.int .i64 k)] (.v (.int .i64 (k + 3 * n))) [.bot, .bot] := by
  refine fn_ok (md := md3) (ms := [false, false]) k_laws_heldDeedS (by simp) ?_
  simp [c_laws_heldDeedS]
  refine loop_by (fun m E H => ∃ i : Nat, m = n - i ∧ i ≤ n ∧ H = [] ∧ E = [(0, .sl 1 3 (dsA (marks3 n k))), (1, .v (.int .i64 (k + 3 * i))), (5, .v (.int .i64 i))]) n ⟨0, by simp⟩ ?_
  rintro J hJ m E H ⟨i, rfl, hi, rfl, rfl⟩
  by_cases h : i < n
  · have e : (marks3 n k)[i]'(by simpa using h) = (k + 3 * (i : Nat), k + 3 * (i : Nat) + 1, k + 3 * (i : Nat) + 2) := by simp [marks3]
    simp [c_laws_heldDeedS_L0, h, aiadr_ds, deedC, e]
    refine ⟨by omega, by omega, fun hne => absurd (by omega) hne, fun _ => ⟨by omega, by omega, _, by omega, hJ _ _ _ ⟨i + 1, rfl, h, rfl, ?_⟩⟩⟩
    simp; omega
  · have : i = n := by omega
    subst this
    simp [c_laws_heldDeedS_L0]

theorem s_slices_Clip_Deed (xs : List (Int × Int × Int)) : SoundAt Tryz.prog n_slices_Clip_impl_Deed_impl_Deed [.os 3 (dsA xs)] (.os 3 (dsA xs)) [.bot] := by
  refine fn_ok (md := md3) (ms := [false]) k_slices_Clip_impl_Deed_impl_Deed (by simp) ?_
  simp [c_slices_Clip_impl_Deed_impl_Deed]
  exact List.take_of_length_le (by simp)

theorem s_impl_Book_endDeeds_1 (w : Int) : SoundAt Tryz.prog n_impl_Book_endDeeds_1 [.v (.int .i64 w)] (.v (.bool (decide (w = 1 ∨ w = 2)))) [.bot] := by
  refine fn_ok (md := md3) (ms := [false]) k_impl_Book_endDeeds_1 (by simp) ?_
  by_cases h1 : w = 1 <;> by_cases h2 : w = 2 <;> simp [c_impl_Book_endDeeds_1, h1, h2]

end Go.Proofs.Dev

namespace Go.Proofs.Dev
set_option linter.unusedSimpArgs false
set_option maxRecDepth 100000

def liftD (ls ws : List Int) (k : Nat) : List (Int × Int × Int) := if (ati ls k = 1 ∨ ati ls k = 2) ∧ ati ws k ≠ ati ls k then [(1, (k : Int), 0)] else []
def layD (ls ws : List Int) (k : Nat) : List (Int × Int × Int) := if (ati ws k = 1 ∨ ati ws k = 2) ∧ ati ws k ≠ ati ls k then [(0, (k : Int), ati ws k)] else []
def liftsTo (ls ws : List Int) (n : Nat) : List (Int × Int × Int) := (List.range n).flatMap (liftD ls ws)
def laysTo (ls ws : List Int) (n : Nat) : List (Int × Int × Int) := (List.range n).flatMap (layD ls ws)
theorem liftsTo_succ (ls ws : List Int) (n : Nat) : liftsTo ls ws (n + 1) = liftsTo ls ws n ++ liftD ls ws n := by simp [liftsTo, List.range_succ]
theorem laysTo_succ (ls ws : List Int) (n : Nat) : laysTo ls ws (n + 1) = laysTo ls ws n ++ layD ls ws n := by simp [laysTo, List.range_succ]
theorem liftsTo_length (ls ws : List Int) : ∀ n, (liftsTo ls ws n).length ≤ n
  | 0 => by simp [liftsTo]
  | n + 1 => by
    have := liftsTo_length ls ws n
    rw [liftsTo_succ, List.length_append]
    have : (liftD ls ws n).length ≤ 1 := by unfold liftD; split <;> simp
    omega
theorem laysTo_length (ls ws : List Int) : ∀ n, (laysTo ls ws n).length ≤ n
  | 0 => by simp [laysTo]
  | n + 1 => by
    have := laysTo_length ls ws n
    rw [laysTo_succ, List.length_append]
    have : (layD ls ws n).length ≤ 1 := by unfold layD; split <;> simp
    omega
def endT (ls ws : List Int) : List (Int × Int × Int) := liftsTo ls ws ws.length ++ laysTo ls ws ws.length
def bareL (W T : Int) (cs : List Bool) : List Int := if regB W T cs then noneL cs else []
def endI (W T : Int) (cs : List Bool) (ds ls : List Int) (ps : List (List Int)) : List (Int × Int × Int) :=
  if (bookB W T cs ds ls ps && solB W T cs ds (bareL W T cs)) = true then endT ls (solL W T cs ds (bareL W T cs)) else []

theorem t_spec_EndDeeds (W T : Int) (cs : List Bool) (ds ls : List Int) (ps : List (List Int)) (ws : List Int) (sb : Bool) (hc : cs.length < 2 ^ 40) (hd : ds.length < 2 ^ 40) (hl : ls.length < 2 ^ 40) (hb : ps.length < 2 ^ 40) (hp : ∀ p ∈ ps, p.length < 2 ^ 40)
    (hws : bookB W T cs ds ls ps = true → sb = true → ls.length = ws.length ∧ ws.length ≤ 36) :
    awp Tryz.prog md3 c_spec_EndDeeds_T2 (Fin [RV.t 2] 105 1 [false] (AV.os 3 (dsA (if (bookB W T cs ds ls ps && sb) = true then endT ls ws else []))) [AV.bot])
      [(1, .lp 0 0 0 0), (3, .ls 3 1 0 0), (4, .sl 0 1 (ints ws)), (5, .v (.bool sb))]
      [some (.box [.v (.int .i64 W), .v (.int .i64 T), .sl 1 1 (bools cs), .sl 1 1 (ints ds), .sl 1 1 (ints ls), .sl 1 1 (sls 1 ps)]), some (.arr 3 [])] := by
  cases sb with
  | false => simp [c_spec_EndDeeds_T2]
  | true =>
  simp [c_spec_EndDeeds_T2]
  refine call_on (s_spec_BookValid W T cs ds ls ps hc hd hl hb hp) ?_
  cases hbk : bookB W T cs ds ls ps with
  | false => simp
  | true =>
  obtain ⟨e1, e2⟩ := hws hbk rfl
  simp
  refine loop_by (fun m E H => ∃ i : Nat, m = ws.length - i ∧ i ≤ ws.length ∧ H = [some (.box [.v (.int .i64 W), .v (.int .i64 T), .sl 1 1 (bools cs), .sl 1 1 (ints ds), .sl 1 1 (ints ls), .sl 1 1 (sls 1 ps)]), some (.arr 3 (dsA (liftsTo ls ws i)))] ∧
    E = [(1, .lp 0 0 0 0), (3, .ls 3 1 0 (liftsTo ls ws i).length), (4, .sl 0 1 (ints ws)), (6, .v (.int .i64 i))]) ws.length ⟨0, by simp [liftsTo]⟩ ?_
  rintro J hJ m E H ⟨i, rfl, hi, rfl, rfl⟩
  have hlen := liftsTo_length ls ws i
  have hsuc := liftsTo_succ ls ws i
  by_cases h : i < ws.length
  · have h2 : i < ls.length := by omega
    have nx1 : liftD ls ws i = [] → again J (ws.length - i) [(1, .lp 0 0 0 0), (3, .ls 3 1 0 (liftsTo ls ws i).length), (4, .sl 0 1 (ints ws)), (6, .v (.int .i64 (i + 1)))]
        [some (.box [.v (.int .i64 W), .v (.int .i64 T), .sl 1 1 (bools cs), .sl 1 1 (ints ds), .sl 1 1 (ints ls), .sl 1 1 (sls 1 ps)]), some (.arr 3 (dsA (liftsTo ls ws i)))] :=
      fun e => ⟨_, by omega, hJ _ _ _ ⟨i + 1, rfl, h, by rw [hsuc, e, List.append_nil], by rw [hsuc, e, List.append_nil]; rfl⟩⟩
    have nx2 : liftD ls ws i = [(1, (i : Int), 0)] → again J (ws.length - i) [(1, .lp 0 0 0 0), (3, .ls 3 1 0 ((liftsTo ls ws i).length + 1)), (4, .sl 0 1 (ints ws)), (6, .v (.int .i64 (i + 1)))]
        [some (.box [.v (.int .i64 W), .v (.int .i64 T), .sl 1 1 (bools cs), .sl 1 1 (ints ds), .sl 1 1 (ints ls), .sl 1 1 (sls 1 ps)]), some (.arr 3 (dsA (liftsTo ls ws i) ++ [.agg [.v (.int .i64 1), .v (.int .i64 i), .v (.int .i64 0)]]))] :=
      fun e => ⟨_, by omega, hJ _ _ _ ⟨i + 1, rfl, h, by rw [hsuc, e, dsA_append]; rfl, by rw [hsuc, e, List.length_append]; rfl⟩⟩
    have hio : i < 36 := by omega
    by_cases hw1 : ati ls i = 1
    · by_cases hw3 : ati ws i = 1
      · have nx := nx1 (by simp [liftD, hw1, hw3])
        simp [c_spec_EndDeeds_L0, h, h2, hw1, hw3]
        exact ⟨by omega, nx⟩
      · have nx := nx2 (by simp [liftD, hw1, hw3])
        simp [c_spec_EndDeeds_L0, h, h2, hw1, hw3]
        exact ⟨by omega, by omega, nx⟩
    · by_cases hw2 : ati ls i = 2
      · by_cases hw3 : ati ws i = 2
        · have nx := nx1 (by simp [liftD, hw2, hw3])
          simp [c_spec_EndDeeds_L0, h, h2, hw2, hw3]
          exact ⟨by omega, nx⟩
        · have nx := nx2 (by simp [liftD, hw2, hw3])
          simp [c_spec_EndDeeds_L0, h, h2, hw2, hw3]
          exact ⟨by omega, by omega, nx⟩
      · have nx := nx1 (by simp [liftD, hw1, hw2])
        simp [c_spec_EndDeeds_L0, h, h2, hw1, hw2]
        exact ⟨by omega, nx⟩
  · have : i = ws.length := by omega
    subst this
    simp [c_spec_EndDeeds_L0]
    clear hJ J
    have hL : (liftsTo ls ws ws.length).length ≤ 36 := by omega
    have hE : endT ls ws = liftsTo ls ws ws.length ++ laysTo ls ws ws.length := rfl
    rw [hE]
    generalize liftsTo ls ws ws.length = L at *
    refine loop_by (fun m E H => ∃ i : Nat, m = ws.length - i ∧ i ≤ ws.length ∧ H = [some (.box [.v (.int .i64 W), .v (.int .i64 T), .sl 1 1 (bools cs), .sl 1 1 (ints ds), .sl 1 1 (ints ls), .sl 1 1 (sls 1 ps)]), some (.arr 3 (dsA (L ++ laysTo ls ws i)))] ∧
      E = [(1, .lp 0 0 0 0), (3, .ls 3 1 0 (L ++ laysTo ls ws i).length), (4, .sl 0 1 (ints ws)), (7, .v (.int .i64 i))]) ws.length ⟨0, by simp [laysTo]⟩ ?_
    rintro J hJ m E H ⟨i, rfl, hi, rfl, rfl⟩
    have hlen : (L ++ laysTo ls ws i).length ≤ 36 + i := by
      have := laysTo_length ls ws i
      rw [List.length_append]; omega
    have hsuc : L ++ laysTo ls ws (i + 1) = (L ++ laysTo ls ws i) ++ layD ls ws i := by rw [laysTo_succ, List.append_assoc]
    by_cases h : i < ws.length
    case neg =>
      have : i = ws.length := by omega
      subst this
      simp only [c_spec_EndDeeds_L1]
      generalize L ++ laysTo ls ws ws.length = M at *
      simp
      exact List.take_of_length_le (by simp)
    have h2 : i < ls.length := by omega
    generalize L ++ laysTo ls ws i = M at *
    have nx1 : layD ls ws i = [] → again J (ws.length - i) [(1, .lp 0 0 0 0), (3, .ls 3 1 0 M.length), (4, .sl 0 1 (ints ws)), (7, .v (.int .i64 (i + 1)))]
        [some (.box [.v (.int .i64 W), .v (.int .i64 T), .sl 1 1 (bools cs), .sl 1 1 (ints ds), .sl 1 1 (ints ls), .sl 1 1 (sls 1 ps)]), some (.arr 3 (dsA (M)))] :=
      fun e => ⟨_, by omega, hJ _ _ _ ⟨i + 1, rfl, h, by rw [hsuc, e, List.append_nil], by rw [hsuc, e, List.append_nil]; rfl⟩⟩
    have nx2 : layD ls ws i = [(0, (i : Int), ati ws i)] → again J (ws.length - i) [(1, .lp 0 0 0 0), (3, .ls 3 1 0 (M.length + 1)), (4, .sl 0 1 (ints ws)), (7, .v (.int .i64 (i + 1)))]
        [some (.box [.v (.int .i64 W), .v (.int .i64 T), .sl 1 1 (bools cs), .sl 1 1 (ints ds), .sl 1 1 (ints ls), .sl 1 1 (sls 1 ps)]), some (.arr 3 (dsA (M) ++ [.agg [.v (.int .i64 0), .v (.int .i64 i), .v (.int .i64 (ati ws i))]]))] :=
      fun e => ⟨_, by omega, hJ _ _ _ ⟨i + 1, rfl, h, by rw [hsuc, e, dsA_append]; rfl, by rw [hsuc, e, List.length_append]; rfl⟩⟩
    have hio : i < 36 := by omega
    by_cases hw1 : ati ws i = 1
    · by_cases hw3 : ati ls i = 1
      · have nx := nx1 (by simp [layD, hw1, hw3])
        simp [c_spec_EndDeeds_L1, h, h2, hw1, hw3]
        exact ⟨by omega, nx⟩
      · have hw3' : ¬ (1 : Int) = ati ls i := fun e => hw3 e.symm
        have nx := nx2 (by simp [layD, hw1, hw3'])
        rw [hw1] at nx
        simp [c_spec_EndDeeds_L1, h, h2, hw1, hw3, hw3']
        exact ⟨by omega, by omega, nx⟩
    · by_cases hw2 : ati ws i = 2
      · by_cases hw3 : ati ls i = 2
        · have nx := nx1 (by simp [layD, hw2, hw3])
          simp [c_spec_EndDeeds_L1, h, h2, hw2, hw3]
          exact ⟨by omega, nx⟩
        · have hw3' : ¬ (2 : Int) = ati ls i := fun e => hw3 e.symm
          have nx := nx2 (by simp [layD, hw2, hw3'])
          rw [hw2] at nx
          simp [c_spec_EndDeeds_L1, h, h2, hw2, hw3, hw3']
          exact ⟨by omega, by omega, nx⟩
      · have nx := nx1 (by simp [layD, hw1, hw2])
        simp [c_spec_EndDeeds_L1, h, h2, hw1, hw2]
        exact ⟨by omega, nx⟩

theorem end_len {W T : Int} {cs : List Bool} {ds ls : List Int} {ps : List (List Int)} {b : List Int} (h1 : bookB W T cs ds ls ps = true) (h2 : solB W T cs ds b = true) :
    ls.length = (solL W T cs ds b).length ∧ (solL W T cs ds b).length ≤ 36 ∧ ds.length = cs.length := by
  have hok := okB_W (fairB_ok (bookB_fair h1))
  unfold solB at h2
  unfold solL
  cases hf : firstHas W T cs ds b with
  | none => rw [hf] at h2; cases h2
  | some x =>
    have e := (firstHas_some hf).2
    have := regB_len hok.1
    simp only [Option.getD_some]
    exact ⟨by omega, by omega, hok.2.1⟩

theorem s_spec_EndDeeds (W T : Int) (cs : List Bool) (ds ls : List Int) (ps : List (List Int)) (hc : cs.length < 2 ^ 40) (hd : ds.length < 2 ^ 40) (hl : ls.length < 2 ^ 40) (hb : ps.length < 2 ^ 40) (hp : ∀ p ∈ ps, p.length < 2 ^ 40) :
    SoundAt Tryz.prog n_spec_EndDeeds [bkA W T cs ds ls ps] (.os 3 (dsA (endI W T cs ds ls ps))) [.bot] := by
  have tl := t_spec_EndDeeds W T cs ds ls ps (solL W T cs ds (bareL W T cs)) (solB W T cs ds (bareL W T cs)) hc hd hl hb hp (fun h1 h2 => ⟨(end_len h1 h2).1, (end_len h1 h2).2.1⟩)
  refine fn_ok (md := md3) (ms := [false]) k_spec_EndDeeds (by simp) ?_
  simp [c_spec_EndDeeds]
  (repeat' first | apply And.intro) <;>
  · refine call_on (s_spec_LaidBare W T cs hc) ?_
    simp
    have hbl : (if regB W T cs = true then noneL cs else []).length < 2 ^ 40 := by split <;> simp [noneL] <;> omega
    (repeat' first | apply And.intro) <;>
    · refine call_on (s_spec_SolveFirstU W T cs ds _ hc hd hbl) ?_
      simp
      exact tl

end Go.Proofs.Dev
