/- Contracts of the functions of the program over slots and rows, each proved against the program itself; no condition beyond those that each theorem names. -/
import Derived.Test.YtakaenhgbkbegaaGreatAM
import Derived.Test.YtakaenhgbkbegaaGreatAL
import Derived.Test.YtakaenhgbkbegaaGreatProg
import Derived.Test.YtakaenhgbkbegaaGreatAH

set_option linter.unusedSimpArgs false
set_option linter.unusedVariables false

namespace Go.Proofs.Dev
set_option linter.unusedSimpArgs false
set_option maxRecDepth 100000

abbrev Deed := Int × Int × Int
/-- Deeds one after the other: what is laid, what is past, how many were done. -/
def runRes (f : List Int → List (List Int) → Deed → Bool × List Int × List (List Int)) : List Int → List (List Int) → List Deed → List Int × List (List Int) × Nat
  | ls, ps, [] => (ls, ps, 0)
  | ls, ps, d :: xs => let r := f ls ps d; let q := runRes f r.2.1 r.2.2 xs; (q.1, q.2.1, q.2.2 + if r.1 then 1 else 0)

theorem runRes_snoc (f : List Int → List (List Int) → Deed → Bool × List Int × List (List Int)) : ∀ (xs : List Deed) (ls : List Int) (ps : List (List Int)) (d : Deed),
    runRes f ls ps (xs ++ [d]) = (let q := runRes f ls ps xs; let r := f q.1 q.2.1 d; (r.2.1, r.2.2, q.2.2 + if r.1 then 1 else 0))
  | [], ls, ps, d => by simp only [List.nil_append, runRes, Nat.zero_add]; rfl
  | x :: xs, ls, ps, d => by
    rw [List.cons_append, runRes, runRes]
    simp only [runRes_snoc f xs]
    simp only [Nat.add_right_comm]

set_option maxHeartbeats 8000000 in
theorem s_impl_BookRun (k : cFn Tryz.prog n_impl_BookRun 34 [.c 4 true 6, .t 5] c_impl_BookRun) (W T : Int) (cs : List Bool) (ds ls : List Int) (ps : List (List Int)) (xs : List Deed) (ok : Bool)
    (hx : xs.length < 2 ^ 40) (f : List Int → List (List Int) → Deed → Bool × List Int × List (List Int)) (I : List Int → List (List Int) → Prop) (D : Deed → Prop) (hD : ∀ d ∈ xs, D d)
    (hv : SoundAt Tryz.prog 19 [bkA W T cs ds ls ps] (.v (.bool ok)) [.bot])
    (hcopy : ok = true → SoundAt Tryz.prog 64 [bkA W T cs ds ls ps] (bkO W T cs ds ls ps) [.bot])
    (hI : ok = true → I ls ps) (hstep : ∀ l p d, I l p → I (f l p d).2.1 (f l p d).2.2)
    (hdo : ∀ l p d, I l p → D d → SoundAt Tryz.prog n_impl_Book_do [boxO W T cs ds l p, deedA d] (.v (.bool (f l p d).1)) [boxO W T cs ds (f l p d).2.1 (f l p d).2.2, .bot]) :
    SoundAt Tryz.prog n_impl_BookRun [bkA W T cs ds ls ps, .sl 1 3 (dsA xs)]
      (.tup [if (ok && decide (xs.length ≤ 40)) = true then bkO W T cs ds (runRes f ls ps xs).1 (runRes f ls ps xs).2.1 else bkO 0 0 [] [] [] [], .v (.int .i64 (if (ok && decide (xs.length ≤ 40)) = true then ((runRes f ls ps xs).2.2 : Int) else 0))]) [.bot, .bot] := by
  refine fn_ok (md := mdo) (ms := [false, false]) k (by simp) ?_
  cases ok with
  | false =>
    simp [c_impl_BookRun]
    refine call_on hv ?_
    simp
  | true =>
  by_cases h40 : xs.length ≤ 40
  case neg =>
    have h41 : (40 : Int) < xs.length := by omega
    simp [c_impl_BookRun, h40]
    refine call_on hv ?_
    simp [h41]
  have h41 : ¬ (40 : Int) < xs.length := by omega
  have hcopy := hcopy rfl
  have hI := hI rfl
  simp [c_impl_BookRun, h40]
  refine call_on hv ?_
  simp [h41]
  refine call_on hcopy ?_
  simp
  refine loop_by (fun m E H => ∃ (i : Nat) (l : List Int) (p : List (List Int)) (n : Nat), m = xs.length - i ∧ i ≤ xs.length ∧ runRes f ls ps (xs.take i) = (l, p, n) ∧ n ≤ i ∧ I l p ∧
    E = [(4, .lp 0 0 0 0), (6, .lp 0 1 0 0), (7, .v (.int .i64 n)), (21, .sl 1 3 (dsA xs)), (22, .v (.int .i64 xs.length)), (23, .v (.int .i64 i))] ∧
    H = [some (.box [.v (.int .i64 0), .v (.int .i64 0), .os 1 [], .os 1 [], .os 1 [], .os 1 []]),
      some (.box [.v (.int .i64 W), .v (.int .i64 T), .ls 1 2 0 cs.length, .ls 1 3 0 ds.length, .ls 1 4 0 l.length, .ls 1 5 0 p.length]),
      some (.arr 1 (bools cs)), some (.arr 1 (ints ds)), some (.arr 1 (ints l)), some (.arr 1 (oss p))]) xs.length ⟨0, ls, ps, 0, by simp, by omega, by simp [runRes], by omega, hI, by simp, by simp⟩ ?_
  rintro J hJ m E H ⟨i, l, p, n, rfl, hi, hr, hn, hIl, rfl, rfl⟩
  have htl : (ints l).take l.length = ints l := take_ints_all l
  have hto : (oss p).take p.length = oss p := List.take_of_length_le (by simp [oss])
  by_cases h : i < xs.length
  · have hd := hdo l p xs[i] hIl (hD _ (List.getElem_mem h))
    have hI2 := hstep l p xs[i] hIl
    have hr2 : runRes f ls ps (xs.take (i + 1)) = ((f l p xs[i]).2.1, (f l p xs[i]).2.2, n + if (f l p xs[i]).1 then 1 else 0) := by
      rw [List.take_succ_eq_append_getElem h, runRes_snoc, hr]
    generalize f l p xs[i] = r at *
    obtain ⟨b, l2, p2⟩ := r
    have htl2 : (ints l2).take l2.length = ints l2 := take_ints_all l2
    have hto2 : (oss p2).take p2.length = oss p2 := List.take_of_length_le (by simp [oss])
    simp only at hd hI2 hr2
    simp [c_impl_BookRun_L0, h, aiadr_ds, deedC]
    refine call_on hd ?_
    cases b with
    | false =>
      simp [deedA]
      exact ⟨by omega, _, by omega, hJ _ _ _ ⟨i + 1, l2, p2, n, rfl, h, by rw [hr2]; rfl, by omega, hI2, by simp, by simp⟩⟩
    | true =>
      simp [deedA]
      exact ⟨by omega, by omega, _, by omega, hJ _ _ _ ⟨i + 1, l2, p2, n + 1, rfl, h, by rw [hr2]; rfl, by omega, hI2, by simp, by simp⟩⟩
  · have : i = xs.length := by omega
    subst this
    rw [List.take_length] at hr
    simp [c_impl_BookRun_L0, hr, htl, hto]
end Go.Proofs.Dev

namespace Go.Proofs.Dev
-- 2 parameters, results [.c 4 true 6, .t 5], 43 slots, modes [false, false]
@[simp] abbrev n_spec_BookRun : Nat := 38
abbrev c_spec_BookRun_L0_p0 : Plan := .al (.o 34 (.call 27 []) [.t 29, .t 33]) ( .take (.m 28 34) <| .take (.e 35 0 28) <| .take (.e 36 1 28) <| .al (.s (.store 6) [.t 9, .t 35]) ( .take (.m 10 36) <| .done))
abbrev c_spec_BookRun_L0_p1 : Plan := .alt (.o 34 (.call 27 []) [.t 29, .t 33]) ( .take (.m 28 34) <| .take (.e 35 0 28) <| .take (.e 36 1 28) <| .al (.o 9 (.alloc bz) []) ( .al (.s (.store 6) [.t 9, .t 35]) ( .take (.m 10 36) <| .done))) <| .al (.o 9 (.alloc bz) []) c_spec_BookRun_L0_p0
def c_spec_BookRun_L0 : ACode := .seq (.seq (.reg [.m 22 8, .m 23 1, .n 24 23, .o 25 (.bin .lss 0) [.t 22, .t 24]]) <| .cond (.t 25) ( .skip) ( .exit 0)) <|
 .seq (.block 1 ( .seq (.draw ( .take (.m 30 1) <| .take (.m 31 8) <| .take (.o 32 (.iadr 3) [.t 30, .t 31]) <|
 .alt (.la 29 6 6) ( .alt (.la 33 3 32) c_spec_BookRun_L0_p1 <|
 .al (.o 9 (.alloc bz) []) ( .al (.la 33 3 32) c_spec_BookRun_L0_p0)) <| .alt (.la 33 3 32) ( .alt (.la 29 6 6) c_spec_BookRun_L0_p1 <| .al (.o 9 (.alloc bz) []) ( .al (.la 29 6 6) c_spec_BookRun_L0_p0)) <|
 .al (.o 9 (.alloc bz) []) ( .alt (.la 29 6 6) ( .al (.la 33 3 32) c_spec_BookRun_L0_p0) <|
 .al (.la 33 3 32) ( .al (.la 29 6 6) c_spec_BookRun_L0_p0)))) <| .seq (.reg [.m 37 10]) <| .cond (.t 37) ( .seq (.reg [.la 38 6 9, .s (.store 6) [.t 6,
 .t 38]]) <| .reg [.m 39 7, .o 40 (.bin .add 0) [.t 39, .k 1], .m 7 40]) ( .skip))) <| .reg [.m 26 8, .o 27 (.bin .add 0) [.t 26, .k 1], .m 8 27]

def c_spec_BookRun : ACode := .seq (.reg [.o 2 .box [.t 0], .o 4 (.alloc bz) [], .o 5 .mv [.k 0]]) <| .seq (.seq (.reg [.la 11 6 2, .o 12 (.call 46 []) [.t 11],
 .o 13 (.un .not) [.t 12], .m 14 13, .mg 15 1 14 false, .g 16 (.len false) [.t 15] 14 false, .g 17 (.bin .gtr 0) [.t 16, .k 40] 14 false, .o 18 .pick [.t 14,
 .kb true, .t 17]]) <| .cond (.t 18) ( .seq (.reg [.o 19 (.build bz []) [], .s (.store 6) [.t 4, .t 19], .o 5 .mv [.k 0]]) <| .ret) ( .skip)) <|
 .seq (.reg [.la 20 6 2, .o 21 (.call 79 []) [.t 20], .o 6 (.alloc bz) [], .s (.store 6) [.t 6, .t 21]]) <| .seq (.reg [.o 7 .mv [.k 0]]) <|
 .seq (.seq (.reg [.o 8 .mv [.k 0]]) <| .block 0 ( .loop [(1, 3)] [1, 4, 6, 7, 8] c_spec_BookRun_L0)) <| .seq (.reg [.la 41 6 6, .m 42 7, .s (.store 6) [.t 4,
 .t 41], .m 5 42]) <| .ret


end Go.Proofs.Dev

namespace Go.Proofs.Dev
set_option linter.unusedSimpArgs false
set_option maxRecDepth 100000

set_option maxHeartbeats 8000000 in
theorem s_spec_BookRun (k : cFn Tryz.prog n_spec_BookRun 43 [.c 4 true 6, .t 5] c_spec_BookRun) (W T : Int) (cs : List Bool) (ds ls : List Int) (ps : List (List Int)) (xs : List Deed) (ok : Bool)
    (hx : xs.length < 2 ^ 40) (f : List Int → List (List Int) → Deed → Bool × List Int × List (List Int)) (I : List Int → List (List Int) → Prop)
    (hv : SoundAt Tryz.prog 46 [bkA W T cs ds ls ps] (.v (.bool ok)) [.bot])
    (hcopy : ok = true → SoundAt Tryz.prog 79 [bkA W T cs ds ls ps] (bkO W T cs ds ls ps) [.bot])
    (hI : ok = true → I ls ps) (hstep : ∀ l p d, I l p → I (f l p d).2.1 (f l p d).2.2) (hno : ∀ l p d, I l p → (f l p d).1 = false → (f l p d).2 = (l, p))
    (hdo : ∀ l p d, I l p → SoundAt Tryz.prog 27 [bkA W T cs ds l p, deedA d] (.tup [bkO W T cs ds (f l p d).2.1 (f l p d).2.2, .v (.bool (f l p d).1)]) [.bot, .bot]) :
    SoundAt Tryz.prog n_spec_BookRun [bkA W T cs ds ls ps, .sl 1 3 (dsA xs)]
      (.tup [if (ok && decide (xs.length ≤ 40)) = true then bkO W T cs ds (runRes f ls ps xs).1 (runRes f ls ps xs).2.1 else bkO 0 0 [] [] [] [], .v (.int .i64 (if (ok && decide (xs.length ≤ 40)) = true then ((runRes f ls ps xs).2.2 : Int) else 0))]) [.bot, .bot] := by
  refine fn_ok (md := mdo) (ms := [false, false]) k (by simp) ?_
  cases ok with
  | false =>
    simp [c_spec_BookRun]
    refine call_on hv ?_
    simp
  | true =>
  by_cases h40 : xs.length ≤ 40
  case neg =>
    have h41 : (40 : Int) < xs.length := by omega
    simp [c_spec_BookRun, h40]
    refine call_on hv ?_
    simp [h41]
  have h41 : ¬ (40 : Int) < xs.length := by omega
  have hcopy := hcopy rfl
  have hI := hI rfl
  simp [c_spec_BookRun, h40]
  refine call_on hv ?_
  simp [h41]
  refine call_on hcopy ?_
  simp
  refine loop_by (fun m E H => ∃ (i : Nat) (l : List Int) (p : List (List Int)) (n : Nat), m = xs.length - i ∧ i ≤ xs.length ∧ runRes f ls ps (xs.take i) = (l, p, n) ∧ n ≤ i ∧ I l p ∧
    E = [(1, .sl 1 3 (dsA xs)), (4, .lp 0 0 0 0), (6, .lp 0 1 0 0), (7, .v (.int .i64 n)), (8, .v (.int .i64 i))] ∧
    H = [some (.box [.v (.int .i64 0), .v (.int .i64 0), .os 1 [], .os 1 [], .os 1 [], .os 1 []]),
      some (.box [.v (.int .i64 W), .v (.int .i64 T), .ls 1 2 0 cs.length, .ls 1 3 0 ds.length, .ls 1 4 0 l.length, .ls 1 5 0 p.length]),
      some (.arr 1 (bools cs)), some (.arr 1 (ints ds)), some (.arr 1 (ints l)), some (.arr 1 (oss p))]) xs.length ⟨0, ls, ps, 0, by simp, by omega, by simp [runRes], by omega, hI, by simp, by simp⟩ ?_
  rintro J hJ m E H ⟨i, l, p, n, rfl, hi, hr, hn, hIl, rfl, rfl⟩
  have htl : (ints l).take l.length = ints l := take_ints_all l
  have hto : (oss p).take p.length = oss p := List.take_of_length_le (by simp [oss])
  by_cases h : i < xs.length
  · have hd := hdo l p xs[i] hIl
    have hI2 := hstep l p xs[i] hIl
    have hf := hno l p xs[i] hIl
    have hr2 : runRes f ls ps (xs.take (i + 1)) = ((f l p xs[i]).2.1, (f l p xs[i]).2.2, n + if (f l p xs[i]).1 then 1 else 0) := by
      rw [List.take_succ_eq_append_getElem h, runRes_snoc, hr]
    generalize f l p xs[i] = r at *
    obtain ⟨b, l2, p2⟩ := r
    simp only at hd hI2 hr2 hf
    cases b with
    | false =>
      obtain ⟨rfl, rfl⟩ := Prod.mk.inj (hf rfl)
      simp [c_spec_BookRun_L0, h, aiadr_ds, deedC]
      (repeat' first | omega | apply And.intro) <;>
      · refine call_on hd ?_
        simp [deedA]
        exact ⟨by omega, _, by omega, hJ _ _ _ ⟨i + 1, l2, p2, n, rfl, h, by rw [hr2]; rfl, by omega, hI2, by simp, by simp⟩⟩
    | true =>
      simp [c_spec_BookRun_L0, h, aiadr_ds, deedC]
      (repeat' first | omega | apply And.intro) <;>
      · refine call_on hd ?_
        simp [deedA]
        exact ⟨by omega, by omega, _, by omega, hJ _ _ _ ⟨i + 1, l2, p2, n + 1, rfl, h, by rw [hr2]; rfl, by omega, hI2, by simp, by simp⟩⟩
  · have : i = xs.length := by omega
    subst this
    rw [List.take_length] at hr
    simp [c_spec_BookRun_L0, hr, htl, hto]
end Go.Proofs.Dev

namespace Go.Proofs.Dev
set_option linter.unusedSimpArgs false
set_option maxRecDepth 100000

def pastB (W T : Int) (cs : List Bool) (ds : List Int) (ps : List (List Int)) : Bool := allB ps.length (fun k => fairB W T cs ds (pti ps k))
def bookB (W T : Int) (cs : List Bool) (ds ls : List Int) (ps : List (List Int)) : Bool := (fairB W T cs ds ls && decide (ps.length ≤ 20)) && pastB W T cs ds ps

theorem s_spec_BookValid (W T : Int) (cs : List Bool) (ds ls : List Int) (ps : List (List Int)) (hc : cs.length < 2 ^ 40) (hd : ds.length < 2 ^ 40) (hl : ls.length < 2 ^ 40) (hb : ps.length < 2 ^ 40) (hp : ∀ p ∈ ps, p.length < 2 ^ 40) :
    SoundAt Tryz.prog n_spec_BookValid [bkA W T cs ds ls ps] (.v (.bool (bookB W T cs ds ls ps))) [.bot] := by
  refine fn_ok (md := md0) (ms := [false]) k_spec_BookValid (by simp) ?_
  simp [c_spec_BookValid]
  refine loop_by (fun m E H => ∃ i : Nat, m = ps.length - i ∧ i ≤ ps.length ∧ allB i (fun k => fairB W T cs ds (pti ps k)) = true ∧ H = [some (.box [.v (.int .i64 W), .v (.int .i64 T), .sl 1 1 (bools cs), .sl 1 1 (ints ds), .sl 1 1 (ints ls), .sl 1 1 (sls 1 ps)])] ∧ E = [(1, .lp 0 0 0 0), (3, .v (.int .i64 i))]) ps.length ⟨0, by simp [allB_zero]⟩ ?_
  rintro J hJ m E H ⟨i, rfl, hi, ha, rfl, rfl⟩
  by_cases h : i < ps.length
  case neg =>
    have : i = ps.length := by omega
    subst this
    simp [c_spec_BookValid_L0]
    refine call_on (s_spec_FairOk W T cs ds ls hc hd hl) ?_
    simp [bookB, pastB, ha]
    cases fairB W T cs ds ls <;> simp
    omega
  have one := s_spec_FairOk W T cs ds (pti ps i) hc hd (hp _ (pti_mem h))
  have hno : fairB W T cs ds (pti ps i) = false → bookB W T cs ds ls ps = false := by
    intro hf
    have : pastB W T cs ds ps = false := allB_false h hf
    simp [bookB, this]
  simp [c_spec_BookValid_L0, h]
  (repeat' first | assumption | omega | apply And.intro) <;>
  · refine call_on one ?_
    cases hf : fairB W T cs ds (pti ps i) with
    | false => simp [hno hf]
    | true =>
      simp
      exact ⟨by omega, _, by omega, hJ _ _ _ ⟨i + 1, rfl, h, by rw [allB_succ, ha, hf]; rfl, rfl, rfl⟩⟩

theorem s_impl_BookValid_1 (W T : Int) (cs : List Bool) (ds ls : List Int) (ps : List (List Int)) (p : List Int) (hc : cs.length < 2 ^ 40) (hd : ds.length < 2 ^ 40) (hp : p.length < 2 ^ 40) :
    SoundAt Tryz.prog n_impl_BookValid_1 [.sl 1 1 (ints p), .vp 1 [.v (.int .i64 W), .v (.int .i64 T), .sl 1 1 (bools cs), .sl 1 1 (ints ds), .sl 1 1 (ints ls), .sl 1 1 (sls 1 ps)] 0] (.v (.bool (!fairB W T cs ds p))) [.bot, .bot] := by
  refine fn_ok (md := md0) (ms := [false, false]) k_impl_BookValid_1 (by simp) ?_
  simp [c_impl_BookValid_1]
  refine call_on (s_impl_FairOk W T cs ds p hc hd hp) ?_
  simp

/-- A book that a closure reads. -/
@[simp] def bkP (W T : Int) (cs : List Bool) (ds ls : List Int) (ps : List (List Int)) : AV := .vp 1 [.v (.int .i64 W), .v (.int .i64 T), .sl 1 1 (bools cs), .sl 1 1 (ints ds), .sl 1 1 (ints ls), .sl 1 1 (sls 1 ps)] 0
def unfairI (W T : Int) (cs : List Bool) (ds : List Int) (ps : List (List Int)) : Int := firstI (fun k => !fairB W T cs ds (pti ps k)) ps.length

theorem s_slices_IndexFunc (W T : Int) (cs : List Bool) (ds ls : List Int) (ps qs : List (List Int)) (hc : cs.length < 2 ^ 40) (hd : ds.length < 2 ^ 40) (hb : ps.length < 2 ^ 40) (hp : ∀ p ∈ ps, p.length < 2 ^ 40) :
    SoundAt Tryz.prog n_slices_IndexFunc_int_int [.sl 1 1 (sls 1 ps), .fn 67 [bkP W T cs ds ls qs]] (.v (.int .i64 (unfairI W T cs ds ps))) [.bot, .bot] := by
  refine fn_ok (md := md0) (ms := [false, false]) k_slices_IndexFunc_int_int (by simp) ?_
  simp [c_slices_IndexFunc_int_int]
  refine loop_by (fun m E H => ∃ i : Nat, m = ps.length - i ∧ i ≤ ps.length ∧ (∀ k : Nat, k < i → (!fairB W T cs ds (pti ps k)) = false) ∧ H = [] ∧ E = [(0, .sl 1 1 (sls 1 ps)), (1, .fn 67 [bkP W T cs ds ls qs]), (7, .v (.int .i64 ps.length)), (8, .v (.int .i64 i))]) ps.length ⟨0, by simp⟩ ?_
  rintro J hJ m E H ⟨i, rfl, hi, ha, rfl, rfl⟩
  by_cases h : i < ps.length
  case neg =>
    have : i = ps.length := by omega
    subst this
    have e : unfairI W T cs ds ps = -1 := firstI_none ha
    simp [c_slices_IndexFunc_int_int_L0, e]
  have one := s_impl_BookValid_1 W T cs ds ls qs (pti ps i) hc hd (hp _ (pti_mem h))
  simp [c_slices_IndexFunc_int_int_L0, h]
  refine ⟨by kernel_rfl, ?_⟩
  refine call_on one ?_
  cases hf : fairB W T cs ds (pti ps i) with
  | false =>
    have e : unfairI W T cs ds ps = i := firstI_hit h (by simp [hf]) ha
    simp [e]
  | true =>
    simp
    refine ⟨by omega, _, by omega, hJ _ _ _ ⟨i + 1, rfl, h, ?_, rfl, rfl⟩⟩
    intro k hk
    rcases Nat.lt_or_ge k i with h1 | h1
    · exact ha k h1
    · have : k = i := by omega
      subst this; simp [hf]

theorem s_slices_ContainsFunc (W T : Int) (cs : List Bool) (ds ls : List Int) (ps qs : List (List Int)) (hc : cs.length < 2 ^ 40) (hd : ds.length < 2 ^ 40) (hb : ps.length < 2 ^ 40) (hp : ∀ p ∈ ps, p.length < 2 ^ 40) :
    SoundAt Tryz.prog n_slices_ContainsFunc_int_int [.sl 1 1 (sls 1 ps), .fn 67 [bkP W T cs ds ls qs]] (.v (.bool (!pastB W T cs ds ps))) [.bot, .bot] := by
  refine fn_ok (md := md0) (ms := [false, false]) k_slices_ContainsFunc_int_int (by simp) ?_
  simp [c_slices_ContainsFunc_int_int]
  refine call_on (s_slices_IndexFunc W T cs ds ls ps qs hc hd hb hp) ?_
  have e : decide (0 ≤ unfairI W T cs ds ps) = !pastB W T cs ds ps := by
    cases hpb : pastB W T cs ds ps with
    | true =>
      have h2 : unfairI W T cs ds ps = -1 := firstI_none fun k hk => by
        have := (allB_iff _ _).1 hpb k hk
        simp [this]
      rw [h2]; rfl
    | false =>
      rcases firstI_cases (fun k => !fairB W T cs ds (pti ps k)) ps.length with h2 | ⟨k, hk, hx, h2⟩
      · exfalso
        have : pastB W T cs ds ps = true := by
          rw [pastB, allB_iff]
          intro k hk
          cases hx : fairB W T cs ds (pti ps k) with
          | true => rfl
          | false =>
            exfalso
            have hm : ∃ x ∈ List.range ps.length, (!fairB W T cs ds (pti ps x)) = true := ⟨k, by simpa using hk, by simp [hx]⟩
            have hs := List.find?_isSome.2 hm
            unfold firstI at h2
            split at h2
            · omega
            · rename_i h9; rw [h9] at hs; cases hs
        rw [this] at hpb; cases hpb
      · have h3 : unfairI W T cs ds ps = k := h2
        rw [h3]; simp
  simp [e]

theorem s_impl_BookValid (W T : Int) (cs : List Bool) (ds ls : List Int) (ps : List (List Int)) (hc : cs.length < 2 ^ 40) (hd : ds.length < 2 ^ 40) (hl : ls.length < 2 ^ 40) (hb : ps.length < 2 ^ 40) (hp : ∀ p ∈ ps, p.length < 2 ^ 40) :
    SoundAt Tryz.prog n_impl_BookValid [bkA W T cs ds ls ps] (.v (.bool (bookB W T cs ds ls ps))) [.bot] := by
  refine fn_ok (md := md0) (ms := [false]) k_impl_BookValid (by simp) ?_
  simp [c_impl_BookValid]
  refine call_on (s_impl_FairOk W T cs ds ls hc hd hl) ?_
  cases hf : fairB W T cs ds ls with
  | false => simp [bookB, hf]
  | true =>
  by_cases h20 : ps.length ≤ 20
  case neg =>
    have h20' : ¬ (ps.length : Int) ≤ 20 := by omega
    simp [bookB, hf, h20, h20']
  have h20' : (ps.length : Int) ≤ 20 := by omega
  simp [h20']
  refine call_on (s_slices_ContainsFunc W T cs ds ls ps ps hc hd hb hp) ?_
  simp [bookB, hf, h20]

end Go.Proofs.Dev

namespace Go.Proofs.Dev
set_option linter.unusedSimpArgs false
set_option maxRecDepth 100000

theorem tot_le {cs : List Bool} {ds ls : List Int} {ps : List (List Int)} {n : Nat} (h : totB cs ds ls ps ≤ n) : cs.length ≤ n ∧ ds.length ≤ n ∧ ls.length ≤ n ∧ ps.length ≤ n ∧ ∀ p ∈ ps, p.length ≤ n := by
  unfold totB at h
  refine ⟨by omega, by omega, by omega, by omega, fun p hp => ?_⟩
  obtain ⟨i, hi, rfl⟩ := List.getElem_of_mem hp
  have := pti_le hi
  rw [pti_get hi] at this
  omega

end Go.Proofs.Dev

namespace Go.Proofs.Dev

-- 1 parameters, results [.t 2], 9 slots, modes [false]
@[simp] abbrev n_spec_CellsMany : Nat := 72

def c_spec_CellsMany : ACode := .seq (.reg [.o 1 .box [.t 0], .o 2 .mv [.k 0]]) <| .seq (.seq (.reg [.la 3 3 1, .o 4 (.call 61 []) [.t 3],
 .o 5 (.un .not) [.t 4]]) <| .cond (.t 5) ( .seq (.reg [.o 2 .mv [.k (-1)]]) <| .ret) ( .skip)) <| .seq (.reg [.f 6 2 1, .l 7 6, .o 8 (.call 120 []) [.t 7],
 .m 2 8]) <| .ret

theorem k_spec_CellsMany : cFn Tryz.prog n_spec_CellsMany 9 [.t 2] c_spec_CellsMany := ⟨Tryz.f72, _, Tryz.func72, rfl, by kernel_rfl, by kernel_rfl, by kernel_rfl, by kernel_rfl⟩

-- 2 parameters, results [.t 4], 32 slots, modes [false, false]
@[simp] abbrev n_spec_LaidMany : Nat := 73
def c_spec_LaidMany_L0 : ACode := .seq (.seq (.reg [.m 11 6, .m 12 1, .n 13 12, .o 14 (.bin .lss 0) [.t 11, .t 13]]) <| .cond (.t 14) ( .skip) ( .exit 0)) <|
 .seq (.block 1 ( .seq (.reg [.m 17 1, .m 18 6, .o 19 (.iadr 1) [.t 17, .t 18], .l 20 19, .o 21 (.bin .eql 0) [.t 20, .k 1], .m 22 21, .mg 23 1 22 false,
 .mg 24 6 22 false, .g 25 (.iadr 1) [.t 23, .t 24] 22 false, .lg 26 25 22 false, .g 27 (.bin .eql 0) [.t 26, .k 2] 22 false, .o 28 .pick [.t 22, .kb true,
 .t 27]]) <| .cond (.t 28) ( .reg [.m 29 5, .o 30 (.bin .add 0) [.t 29, .k 1], .m 5 30]) ( .skip))) <| .reg [.m 15 6, .o 16 (.bin .add 0) [.t 15, .k 1],
 .m 6 16]

def c_spec_LaidMany : ACode := .seq (.reg [.o 2 .box [.t 0], .o 4 .mv [.k 0]]) <| .seq (.seq (.reg [.la 7 3 2, .m 8 1, .o 9 (.call 128 []) [.t 7, .t 8],
 .o 10 (.un .not) [.t 9]]) <| .cond (.t 10) ( .seq (.reg [.o 4 .mv [.k (-1)]]) <| .ret) ( .skip)) <| .seq (.reg [.o 5 .mv [.k 0]]) <|
 .seq (.seq (.reg [.o 6 .mv [.k 0]]) <| .block 0 ( .loop [(1, 1)] [1, 5, 6] c_spec_LaidMany_L0)) <| .seq (.reg [.m 31 5, .m 4 31]) <| .ret

theorem k_spec_LaidMany : cFn Tryz.prog n_spec_LaidMany 32 [.t 4] c_spec_LaidMany := ⟨Tryz.f73, _, Tryz.func73, rfl, by kernel_rfl, by kernel_rfl, by kernel_rfl, by kernel_rfl⟩

end Go.Proofs.Dev

namespace Go.Proofs.Dev
set_option linter.unusedSimpArgs false
set_option maxRecDepth 100000

/-- How many dominoes begin in a list. -/
def isDom (x : Int) : Bool := decide (x = 1) || decide (x = 2)
def domN (ls : List Int) : Nat := ls.countP isDom
theorem domN_succ {ls : List Int} {i : Nat} (h : i < ls.length) : domN (ls.take (i + 1)) = domN (ls.take i) + (if isDom (ati ls i) then 1 else 0) := by
  have e : ati ls i = ls[i] := by simp [ati, h]
  rw [e, List.take_succ_eq_append_getElem h, domN, List.countP_append, List.countP_singleton]
  rfl
theorem domN_le (ls : List Int) : domN ls ≤ ls.length := List.countP_le_length

theorem s_spec_CellsMany (W T : Int) (cs : List Bool) (hb : cs.length < 2 ^ 40) :
    SoundAt Tryz.prog n_spec_CellsMany [.agg [.v (.int .i64 W), .v (.int .i64 T), .sl 1 1 (bools cs)]] (.v (.int .i64 (if regB W T cs then manyOf cs else -1))) [.bot] := by
  refine fn_ok (md := md0) (ms := [false]) k_spec_CellsMany (by simp) ?_
  simp [c_spec_CellsMany]
  refine call_on (s_spec_RegionValid W T cs hb) ?_
  cases hr : regB W T cs with
  | false => simp
  | true =>
  simp
  refine call_on (s_spec_l1Count cs hb) ?_
  simp

theorem s_spec_LaidMany (W T : Int) (cs : List Bool) (ls : List Int) (hb : cs.length < 2 ^ 40) (hl : ls.length < 2 ^ 40) :
    SoundAt Tryz.prog n_spec_LaidMany [.agg [.v (.int .i64 W), .v (.int .i64 T), .sl 1 1 (bools cs)], .sl 1 1 (ints ls)] (.v (.int .i64 (if regB W T cs && laysB W T cs ls then (domN ls : Int) else -1))) [.bot, .bot] := by
  refine fn_ok (md := md0) (ms := [false, false]) k_spec_LaidMany (by simp) ?_
  simp [c_spec_LaidMany]
  refine call_on (s_spec_LaidOk W T cs ls hb hl) ?_
  cases hr : (regB W T cs && laysB W T cs ls) with
  | false =>
    have : ¬ (regB W T cs = true ∧ laysB W T cs ls = true) := by simpa using hr
    simp [this]
  | true =>
  have : regB W T cs = true ∧ laysB W T cs ls = true := by simpa using hr
  simp [this]
  refine loop_by (fun m E H => ∃ i : Nat, m = ls.length - i ∧ i ≤ ls.length ∧ H = [] ∧ E = [(1, .sl 1 1 (ints ls)), (5, .v (.int .i64 (domN (ls.take i)))), (6, .v (.int .i64 i))]) ls.length ⟨0, by simp [domN]⟩ ?_
  rintro J hJ m E H ⟨i, rfl, hi, rfl, rfl⟩
  by_cases h : i < ls.length
  case neg =>
    have : i = ls.length := by omega
    subst this
    simp [c_spec_LaidMany_L0]
  have hs := domN_succ h
  have hle : domN (ls.take i) ≤ i := by have := domN_le (ls.take i); simp at this; omega
  have next : ∀ v : Int, v = domN (ls.take (i + 1)) → again J (ls.length - i) [(1, .sl 1 1 (ints ls)), (5, .v (.int .i64 v)), (6, .v (.int .i64 (i + 1)))] [] := by
    rintro v rfl
    exact ⟨_, by omega, hJ _ _ _ ⟨i + 1, rfl, h, rfl, rfl⟩⟩
  by_cases e1 : ati ls i = 1
  · simp [isDom, e1] at hs
    simp [c_spec_LaidMany_L0, h, e1]
    exact ⟨by omega, by omega, next _ (by omega)⟩
  by_cases e2 : ati ls i = 2
  · simp [isDom, e2] at hs
    simp [c_spec_LaidMany_L0, h, e1, e2]
    exact ⟨by omega, by omega, next _ (by omega)⟩
  · simp [isDom, e1, e2] at hs
    simp [c_spec_LaidMany_L0, h, e1, e2]
    exact ⟨by omega, next _ (by omega)⟩

end Go.Proofs.Dev

namespace Go.Proofs.Dev
set_option linter.unusedSimpArgs false
set_option maxRecDepth 100000

end Go.Proofs.Dev

namespace Go.Proofs.Dev

-- 2 parameters, results [.t 4], 25 slots, modes [false, false]
@[simp] abbrev n_spec_l2First : Nat := 157
def c_spec_l2First_L0 : ACode := .seq (.seq (.reg [.m 6 5, .m 7 1, .n 8 7, .o 9 (.bin .lss 0) [.t 6, .t 8]]) <| .cond (.t 9) ( .skip) ( .exit 0)) <|
 .seq (.block 1 ( .seq (.reg [.f 12 2 2, .l 13 12, .m 14 5, .o 15 (.iadr 1) [.t 13, .t 14], .l 16 15, .m 17 16, .mg 18 1 17 true, .mg 19 5 17 true,
 .g 20 (.iadr 1) [.t 18, .t 19] 17 true, .lg 21 20 17 true, .g 22 (.bin .eql 0) [.t 21, .k 0] 17 true, .o 23 .pick [.t 17, .t 22, .kb false]]) <|
 .cond (.t 23) ( .seq (.reg [.m 24 5, .m 4 24]) <| .ret) ( .skip))) <| .reg [.m 10 5, .o 11 (.bin .add 0) [.t 10, .k 1], .m 5 11]

def c_spec_l2First : ACode := .seq (.reg [.o 2 .box [.t 0], .o 4 .mv [.k 0]]) <| .seq (.seq (.reg [.o 5 .mv [.k 0]]) <| .block 0 ( .loop [(1, 1)] [1, 2,
 5] c_spec_l2First_L0)) <| .seq (.reg [.o 4 .mv [.k (-1)]]) <| .ret

theorem k_spec_l2First : cFn Tryz.prog n_spec_l2First 25 [.t 4] c_spec_l2First := ⟨Tryz.f157, _, Tryz.func157, rfl, by kernel_rfl, by kernel_rfl, by kernel_rfl, by kernel_rfl⟩

-- 1 parameters, results [.t 2], 11 slots, modes [false]
@[simp] abbrev n_spec_LaidBare : Nat := 60

def c_spec_LaidBare : ACode := .seq (.reg [.o 1 .box [.t 0], .o 2 .mv [.c (.os 1 [])]]) <| .seq (.seq (.reg [.la 3 3 1, .o 4 (.call 61 []) [.t 3],
 .o 5 (.un .not) [.t 4]]) <| .cond (.t 5) ( .seq (.reg [.o 6 (.bsl 1) [], .m 2 6]) <| .ret) ( .skip)) <| .seq (.reg [.f 7 2 1, .l 8 7, .n 9 8,
 .o 10 (.mksl 1 8 (.v (.int .i64 (0)))) [.t 9, .t 9], .m 2 10]) <| .ret

theorem k_spec_LaidBare : cFn Tryz.prog n_spec_LaidBare 11 [.t 2] c_spec_LaidBare := ⟨Tryz.f60, _, Tryz.func60, rfl, by kernel_rfl, by kernel_rfl, by kernel_rfl, by kernel_rfl⟩

end Go.Proofs.Dev

namespace Go.Proofs.Dev
set_option linter.unusedSimpArgs false
set_option maxRecDepth 100000

/-- Who takes ownership: 139 of its second argument. -/
@[simp] def md1 (f : Nat) : List Bool := if f = 199 then [false, true] else md0 f

def bareB (cs : List Bool) (ls : List Int) (k : Nat) : Bool := atb cs k && decide (ati ls k = 0)
def bareI (cs : List Bool) (ls : List Int) : Int := firstI (bareB cs ls) ls.length
/-- All tilings that have the dominoes of a list. -/
def allT (W T : Int) (cs : List Bool) : Nat → List Int → List (List Int)
  | 0, ls => [ls]
  | n + 1, ls => if bareI cs ls < 0 then [ls] else
      (if freeB W T cs ls (bareI cs ls) 1 then allT W T cs n (layI W T ls (bareI cs ls) 1) else []) ++
      (if freeB W T cs ls (bareI cs ls) 2 then allT W T cs n (layI W T ls (bareI cs ls) 2) else [])

theorem bare_cases (cs : List Bool) (ls : List Int) : bareI cs ls = -1 ∨ ∃ k : Nat, k < ls.length ∧ bareI cs ls = k ∧ atb cs k = true ∧ ati ls k = 0 := by
  rcases firstI_cases (bareB cs ls) ls.length with h | ⟨k, hk, hp, he⟩
  · left; exact h
  · right
    simp only [bareB, Bool.and_eq_true, decide_eq_true_eq] at hp
    exact ⟨k, hk, he, hp.1, hp.2⟩

theorem lay_zeros {W T : Int} {ls : List Int} {k : Nat} {way : Int} (hk : k < ls.length) (hz : ati ls k = 0) (h1 : 1 ≤ way) (h4 : way ≤ 4) : zeros (layI W T ls k way) < zeros ls := by
  have hb : backI way ≠ 0 := by
    have := (backI_back h1 h4).2
    omega
  refine Nat.lt_of_le_of_lt (zeros_set_le hb) ?_
  exact zeros_set_lt (by simpa using hk) (by simpa using hz) (by omega)

theorem s_spec_l2First (W T : Int) (cs : List Bool) (ls : List Int) (hl : ls.length = cs.length) (hb : cs.length < 2 ^ 40) :
    SoundAt Tryz.prog n_spec_l2First [.agg [.v (.int .i64 W), .v (.int .i64 T), .sl 1 1 (bools cs)], .sl 1 1 (ints ls)] (.v (.int .i64 (bareI cs ls))) [.bot, .bot] := by
  refine fn_ok (md := md0) (ms := [false, false]) k_spec_l2First (by simp) ?_
  simp [c_spec_l2First]
  refine loop_by (fun m E H => ∃ i : Nat, m = ls.length - i ∧ i ≤ ls.length ∧ (∀ j : Nat, j < i → bareB cs ls j = false) ∧ H = [some (.box [.v (.int .i64 W), .v (.int .i64 T), .sl 1 1 (bools cs)])] ∧
    E = [(1, .sl 1 1 (ints ls)), (2, .lp 0 0 0 0), (5, .v (.int .i64 i))]) ls.length ⟨0, by simp⟩ ?_
  rintro J hJ m E H ⟨i, rfl, hi, ha, rfl, rfl⟩
  by_cases h : i < ls.length
  case neg =>
    have : i = ls.length := by omega
    subst this
    have e : bareI cs ls = -1 := firstI_none ha
    simp [c_spec_l2First_L0, e]
  have next : bareB cs ls i = false → again J (ls.length - i) [(1, .sl 1 1 (ints ls)), (2, .lp 0 0 0 0), (5, .v (.int .i64 (i + 1)))]
      [some (.box [.v (.int .i64 W), .v (.int .i64 T), .sl 1 1 (bools cs)])] := by
    intro hx
    refine ⟨_, by omega, hJ _ _ _ ⟨i + 1, rfl, h, ?_, rfl, rfl⟩⟩
    intro j hj
    rcases Nat.lt_or_ge j i with h1 | h1
    · exact ha j h1
    · have : j = i := by omega
      subst this; exact hx
  have h2 : i < cs.length := by omega
  cases hc : atb cs i with
  | false =>
    simp [c_spec_l2First_L0, h, h2, hc]
    exact ⟨by omega, next (by simp [bareB, hc])⟩
  | true =>
  by_cases z : ati ls i = 0
  · have e : bareI cs ls = i := firstI_hit h (by simp [bareB, hc, z]) ha
    simp [c_spec_l2First_L0, h, h2, hc, z, e]
  · simp [c_spec_l2First_L0, h, h2, hc, z]
    exact ⟨by omega, next (by simp [bareB, z])⟩

theorem zeros_pos {ls : List Int} {k : Nat} (h : k < ls.length) (hz : ati ls k = 0) : 0 < zeros ls := by
  have := zeros_set_lt (v := 1) h hz (by omega)
  omega

end Go.Proofs.Dev

namespace Go.Proofs.Dev
set_option linter.unusedSimpArgs false
set_option maxRecDepth 100000

def noneL (cs : List Bool) : List Int := List.replicate cs.length 0
theorem ati_none (cs : List Bool) (k : Int) : ati (noneL cs) k = 0 := by
  unfold ati noneL
  rw [List.getD_eq_getElem?_getD, List.getElem?_replicate]
  split <;> rfl
theorem lays_none (W T : Int) (cs : List Bool) : laysB W T cs (noneL cs) = true := by
  simp only [laysB, Bool.and_eq_true, decide_eq_true_eq, allB_iff]
  refine ⟨by simp [noneL], fun k _ => ?_⟩
  simp only [layAt, decide_eq_true_eq]
  exact .inl (ati_none cs k)

theorem s_spec_LaidBare (W T : Int) (cs : List Bool) (hb : cs.length < 2 ^ 40) :
    SoundAt Tryz.prog n_spec_LaidBare [.agg [.v (.int .i64 W), .v (.int .i64 T), .sl 1 1 (bools cs)]] (.os 1 (ints (if regB W T cs then noneL cs else []))) [.bot] := by
  refine fn_ok (md := md0) (ms := [false]) k_spec_LaidBare (by simp) ?_
  simp [c_spec_LaidBare]
  refine call_on (s_spec_RegionValid W T cs hb) ?_
  cases hr : regB W T cs with
  | false => simp
  | true =>
  simp [noneL, ints_rep]
  exact ⟨by omega, List.take_of_length_le (by simp)⟩

end Go.Proofs.Dev

namespace Go.Proofs.Dev
set_option linter.unusedSimpArgs false

theorem firstI_neg {p : Nat → Bool} {n : Nat} (h : firstI p n < 0) : ∀ j, j < n → p j = false := by
  intro j hj
  cases hx : p j with
  | false => rfl
  | true =>
    exfalso
    have hm : ∃ x ∈ List.range n, p x = true := ⟨j, by simpa using hj, hx⟩
    have hs := List.find?_isSome.2 hm
    unfold firstI at h
    split at h
    · omega
    · rename_i h9; rw [h9] at hs; cases hs

end Go.Proofs.Dev
