/- Contracts of the functions of the program over slots and rows, each proved against the program itself; no condition beyond those that each theorem names. -/
import Derived.Test.YtakaenhgbkbegaaGreatAL
import Derived.Test.YtakaenhgbkbegaaGreatAH
import Derived.Test.YtakaenhgbkbegaaGreatAK
import Derived.Test.YtakaenhgbkbegaaGreatProg
import Derived.Test.YtakaenhgbkbegaaGreatAJ

set_option linter.unusedSimpArgs false
set_option linter.unusedVariables false

namespace Go.Proofs.Dev
set_option linter.unusedSimpArgs false
set_option maxRecDepth 100000

/-- Lists of numbers, as elements of a row: read alone, and owned. -/
def sls (c : Nat) (ps : List (List Int)) : List AV := ps.map fun p => .sl c 1 (ints p)
def oss (ps : List (List Int)) : List AV := ps.map fun p => .os 1 (ints p)
def pti (ps : List (List Int)) (i : Int) : List Int := ps.getD i.toNat []

@[simp] theorem sls_length (c : Nat) (ps : List (List Int)) : (sls c ps).length = ps.length := by simp [sls]
@[simp] theorem oss_length (ps : List (List Int)) : (oss ps).length = ps.length := by simp [oss]
@[simp] theorem sls_nil (c : Nat) : sls c [] = [] := (rfl)
@[simp] theorem oss_nil : oss [] = [] := (rfl)
@[simp] theorem sls_eq_nil (c : Nat) (ps : List (List Int)) : (sls c ps = []) = (ps = []) := by cases ps <;> simp [sls]
@[simp] theorem oss_eq_nil (ps : List (List Int)) : (oss ps = []) = (ps = []) := by cases ps <;> simp [oss]
theorem oss_append (a b : List (List Int)) : oss (a ++ b) = oss a ++ oss b := by simp [oss]
theorem oss_one (a : List Int) : oss [a] = [.os 1 (ints a)] := (rfl)
@[simp] theorem iadr_sls_ite {c d : Nat} {k : IntKind} {ps : List (List Int)} {i : Int} : aiadr 1 (.sl c 1 (sls d ps)) (.v (.int k i)) = if 0 ≤ i ∧ i < ps.length then some (.vp c [.sl d 1 (ints (pti ps i))] 0) else none := by
  by_cases h : 0 ≤ i ∧ i < ps.length
  · rw [if_pos h]
    have h1 : i.toNat < ps.length := by omega
    simp [aiadr, h.1, sls, pti, h1]
  · rw [if_neg h]
    by_cases h0 : 0 ≤ i
    · have : ¬ i.toNat < ps.length := by omega
      simp [aiadr, h0, sls, this]
    · simp [aiadr, h0]
@[simp] theorem vwL_sls (c d : Nat) : ∀ ps : List (List Int), vwL c (sls d ps) = sls c ps
  | [] => rfl
  | p :: ps => by
    show vw c (.sl d 1 (ints p)) :: vwL c (sls d ps) = .sl c 1 (ints p) :: sls c ps
    rw [vwL_sls c d ps]; simp
@[simp] theorem vwL_oss (c : Nat) : ∀ ps : List (List Int), vwL c (oss ps) = sls c ps
  | [] => rfl
  | p :: ps => by
    show vw c (.os 1 (ints p)) :: vwL c (oss ps) = .sl c 1 (ints p) :: sls c ps
    rw [vwL_oss c ps]; simp
@[simp] theorem okL_sls (c : Nat) : ∀ ps : List (List Int), okL (sls c ps) = true
  | [] => rfl
  | p :: ps => by show (okE (.sl c 1 (ints p)) && okL (sls c ps)) = true; rw [okL_sls c ps]; simp
@[simp] theorem okL_oss : ∀ ps : List (List Int), okL (oss ps) = true
  | [] => rfl
  | p :: ps => by show (okE (.os 1 (ints p)) && okL (oss ps)) = true; rw [okL_oss ps]; simp
theorem oss_set (ps : List (List Int)) (i : Nat) (p : List Int) : (oss ps).set i (.os 1 (ints p)) = oss (ps.set i p) := by simp [oss, List.map_set]
theorem oss_rep (n : Nat) : List.replicate n (.os 1 []) = oss (List.replicate n []) := by simp [oss]
theorem take_oss (n : Nat) (ps : List (List Int)) : (oss ps).take n = oss (ps.take n) := by simp [oss]
@[simp] theorem take_oss_all (ps : List (List Int)) : (oss ps).take ps.length = oss ps := by rw [take_oss, List.take_length]
theorem pti_nat (ps : List (List Int)) (i : Nat) : pti ps (i : Int) = ps.getD i [] := by simp [pti]

theorem s_laws_szIntS (xs : List Int) (left : Int) (h0 : 0 ≤ left) (h1 : left < 2 ^ 60) (hb : xs.length ≤ 9223372036854775807) :
    SoundAt Tryz.prog n_laws_szIntS [.sl 1 1 (ints xs), .v (.int .i64 left)] (.v (.int .i64 (if left < xs.length then -1 else left - xs.length))) [.bot, .bot] := by
  refine fn_ok (md := md0) (ms := [false, false]) k_laws_szIntS (by simp) ?_
  simp [c_laws_szIntS]
  omega

def sumL (ps : List (List Int)) : Nat := (ps.map List.length).sum
theorem sumL_append (a b : List (List Int)) : sumL (a ++ b) = sumL a + sumL b := by
  unfold sumL; rw [List.map_append, List.sum_append]
theorem pti_get {ps : List (List Int)} {i : Nat} (h : i < ps.length) : pti ps i = ps[i] := by
  unfold pti; rw [Int.toNat_natCast, List.getD_eq_getElem?_getD, List.getElem?_eq_getElem h]; rfl
theorem sumL_succ {ps : List (List Int)} {i : Nat} (h : i < ps.length) : sumL (ps.take (i + 1)) = sumL (ps.take i) + (pti ps i).length := by
  rw [List.take_succ_eq_append_getElem h, sumL_append, pti_get h]
  unfold sumL; rfl
theorem sumL_le {ps : List (List Int)} {i : Nat} : sumL (ps.take i) ≤ sumL ps := by
  have h := sumL_append (ps.take i) (ps.drop i)
  rw [List.take_append_drop] at h
  omega
theorem pti_mem {ps : List (List Int)} {i : Nat} (h : i < ps.length) : pti ps i ∈ ps := by rw [pti_get h]; exact List.getElem_mem h
theorem pti_le {ps : List (List Int)} {i : Nat} (h : i < ps.length) : (pti ps i).length ≤ sumL ps := by
  have h1 := sumL_succ h
  have h2 := sumL_le (ps := ps) (i := i + 1)
  omega

theorem s_laws_szIntSS (ps : List (List Int)) (left : Int) (h0 : 0 ≤ left) (h1 : left < 2 ^ 60) (hb : ps.length ≤ 9223372036854775807) (hp : ∀ p ∈ ps, p.length ≤ 9223372036854775807) :
    SoundAt Tryz.prog n_laws_szIntSS [.sl 1 1 (sls 1 ps), .v (.int .i64 left)] (.v (.int .i64 (if left < ps.length + sumL ps then -1 else left - (ps.length + sumL ps)))) [.bot, .bot] := by
  refine fn_ok (md := md0) (ms := [false, false]) k_laws_szIntSS (by simp) ?_
  simp [c_laws_szIntSS]
  by_cases hn : left < ps.length
  · have h2 : left < ps.length + sumL ps := by omega
    simp [hn, h2]
    omega
  have hn' : ¬ left - ps.length < 0 := by omega
  simp [hn']
  refine ⟨by omega, ?_⟩
  intro _
  refine loop_by (fun m E H => ∃ i : Nat, m = ps.length - i ∧ i ≤ ps.length ∧ ps.length + sumL (ps.take i) ≤ left ∧ H = [] ∧ E = [(0, .sl 1 1 (sls 1 ps)), (1, .v (.int .i64 (left - ps.length - sumL (ps.take i)))), (5, .v (.int .i64 i))]) ps.length ⟨0, by simp [sumL]; omega⟩ ?_
  rintro J hJ m E H ⟨i, rfl, hi, hle, rfl, rfl⟩
  by_cases h : i < ps.length
  case neg =>
    have : i = ps.length := by omega
    subst this
    rw [List.take_length] at hle ⊢
    have h2 : ¬ left < ps.length + sumL ps := by omega
    simp [c_laws_szIntSS_L0, h2]
    omega
  have hs := sumL_succ h
  have hpl := hp _ (pti_mem h)
  have one := s_laws_szIntS (pti ps i) (left - ps.length - sumL (ps.take i)) (by omega) (by omega) hpl
  simp [c_laws_szIntSS_L0, h]
  refine call_on one ?_
  by_cases hx : left - ps.length - sumL (ps.take i) < (pti ps i).length
  · have h2 : left < ps.length + sumL ps := by
      have := sumL_le (ps := ps) (i := i + 1)
      omega
    simp [hx, h2]
  · have h2 : ¬ (left - ps.length - sumL (ps.take i) - (pti ps i).length < 0) := by omega
    have e : left - ps.length - sumL (ps.take i) - (pti ps i).length = left - ps.length - sumL (ps.take (i + 1)) := by omega
    rw [e] at h2
    simp [hx, e, h2]
    exact ⟨by omega, _, by omega, hJ _ _ _ ⟨i + 1, rfl, h, by omega, rfl, rfl⟩⟩

theorem s_laws_toIntSS (ps : List (List Int)) (hb : ps.length < 2 ^ 40) (hp : ∀ p ∈ ps, p.length < 2 ^ 40) :
    SoundAt Tryz.prog n_laws_toIntSS [.sl 1 1 (sls 1 ps)] (.os 1 (oss ps)) [.bot] := by
  refine fn_ok (md := md0) (ms := [false]) k_laws_toIntSS (by simp) ?_
  simp [c_laws_toIntSS]
  refine ⟨by omega, ?_⟩
  refine loop_by (fun m E H => ∃ i : Nat, m = ps.length - i ∧ i ≤ ps.length ∧ H = [some (.arr 1 (oss (ps.take i ++ List.replicate (ps.length - i) [])))] ∧ E = [(0, .sl 1 1 (sls 1 ps)), (3, .ls 1 0 0 ps.length), (4, .v (.int .i64 i))]) ps.length ⟨0, by simp [oss_rep]⟩ ?_
  rintro J hJ m E H ⟨i, rfl, hi, rfl, rfl⟩
  by_cases h : i < ps.length
  case neg =>
    have : i = ps.length := by omega
    subst this
    simp [c_laws_toIntSS_L0]
  simp [c_laws_toIntSS_L0, h]
  refine call_on (s_laws_toIntS (pti ps i) (hp _ (pti_mem h))) ?_
  simp
  refine ⟨h, by omega, by omega, _, by omega, hJ _ _ _ ⟨i + 1, rfl, h, ?_, rfl⟩⟩
  rw [oss_set, pti_nat, set_half ps [] [] i h]

/-- A book's argument, and a book that is owned. -/
@[simp] def bkA (W T : Int) (cs : List Bool) (ds ls : List Int) (ps : List (List Int)) : AV := .agg [.v (.int .i64 W), .v (.int .i64 T), .sl 1 1 (bools cs), .sl 1 1 (ints ds), .sl 1 1 (ints ls), .sl 1 1 (sls 1 ps)]
@[simp] def bkO (W T : Int) (cs : List Bool) (ds ls : List Int) (ps : List (List Int)) : AV := .agg [.v (.int .i64 W), .v (.int .i64 T), .os 1 (bools cs), .os 1 (ints ds), .os 1 (ints ls), .os 1 (oss ps)]

theorem s_laws_toBook (W T : Int) (cs : List Bool) (ds ls : List Int) (ps : List (List Int)) (hc : cs.length < 2 ^ 40) (hd : ds.length < 2 ^ 40) (hl : ls.length < 2 ^ 40) (hb : ps.length < 2 ^ 40) (hp : ∀ p ∈ ps, p.length < 2 ^ 40) :
    SoundAt Tryz.prog n_laws_toBook [bkA W T cs ds ls ps] (bkO W T cs ds ls ps) [.bot] := by
  refine fn_ok (md := md0) (ms := [false]) k_laws_toBook (by simp) ?_
  simp [c_laws_toBook]
  refine call_on (s_laws_toRegion W T cs hc) ?_
  simp
  refine call_on (s_laws_toIntS ds hd) ?_
  simp
  refine call_on (s_laws_toIntS ls hl) ?_
  simp
  refine call_on (s_laws_toIntSS ps hb hp) ?_
  simp

/-- What is left of a measure. -/
def lessI (left : Int) (n : Nat) : Int := if left < n then -1 else left - n
def totB (cs : List Bool) (ds ls : List Int) (ps : List (List Int)) : Nat := cs.length + ds.length + ls.length + (ps.length + sumL ps)

theorem s_laws_szBook (W T : Int) (cs : List Bool) (ds ls : List Int) (ps : List (List Int)) (left : Int) (h0 : 0 ≤ left) (h1 : left < 2 ^ 60) (hc : cs.length ≤ 9223372036854775807) (hd : ds.length ≤ 9223372036854775807) (hl : ls.length ≤ 9223372036854775807) (hb : ps.length ≤ 9223372036854775807) (hp : ∀ p ∈ ps, p.length ≤ 9223372036854775807) :
    SoundAt Tryz.prog n_laws_szBook [bkA W T cs ds ls ps, .v (.int .i64 left)] (.v (.int .i64 (lessI left (totB cs ds ls ps)))) [.bot, .bot] := by
  refine fn_ok (md := md0) (ms := [false, false]) k_laws_szBook (by simp) ?_
  unfold lessI totB
  simp [c_laws_szBook]
  refine call_on (s_laws_szRegion W T cs left h0 h1 hc) ?_
  by_cases g1 : left < cs.length
  · have e : left < cs.length + ds.length + ls.length + (ps.length + sumL ps) := by omega
    simp [g1, e]
  have n1 : ¬ left - cs.length < 0 := by omega
  simp [g1, n1]
  try intro _
  refine call_on (s_laws_szIntS ds (left - cs.length) (by omega) (by omega) hd) ?_
  by_cases g2 : left - cs.length < ds.length
  · have e : left < cs.length + ds.length + ls.length + (ps.length + sumL ps) := by omega
    simp [g2, e]
  have n2 : ¬ left - cs.length - ds.length < 0 := by omega
  simp [g2, n2]
  try intro _
  refine call_on (s_laws_szIntS ls (left - cs.length - ds.length) (by omega) (by omega) hl) ?_
  by_cases g3 : left - cs.length - ds.length < ls.length
  · have e : left < cs.length + ds.length + ls.length + (ps.length + sumL ps) := by omega
    simp [g3, e]
  have n3 : ¬ left - cs.length - ds.length - ls.length < 0 := by omega
  simp [g3, n3]
  try intro _
  refine call_on (s_laws_szIntSS ps (left - cs.length - ds.length - ls.length) (by omega) (by omega) hb hp) ?_
  by_cases g4 : left - cs.length - ds.length - ls.length < ps.length + sumL ps
  · have e : left < cs.length + ds.length + ls.length + (ps.length + sumL ps) := by omega
    simp [g4, e]
  have n4 : ¬ left - cs.length - ds.length - ls.length - (ps.length + sumL ps) < 0 := by omega
  have e : ¬ left < cs.length + ds.length + ls.length + (ps.length + sumL ps) := by omega
  simp [g4, n4, e]
  omega

theorem s_laws_eqIntSS (ps qs : List (List Int)) (ha : ps.length < 2 ^ 40) (hp : ∀ p ∈ ps, p.length < 2 ^ 40) :
    SoundAt Tryz.prog n_laws_eqIntSS [.sl 1 1 (sls 1 ps), .sl 1 1 (sls 1 qs)] (.v (.bool (decide (ps = qs)))) [.bot, .bot] := by
  refine fn_ok (md := md0) (ms := [false, false]) k_laws_eqIntSS (by simp) ?_
  simp [c_laws_eqIntSS]
  refine ⟨fun h => ?_, fun hl => ?_⟩
  · intro e; subst e; exact h rfl
  refine loop_by (fun m E H => ∃ i : Nat, m = ps.length - i ∧ i ≤ ps.length ∧ ps.take i = qs.take i ∧ H = [] ∧ E = [(0, .sl 1 1 (sls 1 ps)), (1, .sl 1 1 (sls 1 qs)), (5, .v (.int .i64 i))]) ps.length ⟨0, by simp⟩ ?_
  rintro J hJ m E H ⟨i, rfl, hi, he, rfl, rfl⟩
  by_cases h : i < ps.length
  case neg =>
    have h1 : i = ps.length := by omega
    subst h1
    have e : ps = qs := by
      rw [List.take_length] at he
      rw [he]; exact List.take_of_length_le (by omega)
    simp [c_laws_eqIntSS_L0, e]
  have h2 : i < qs.length := by omega
  simp [c_laws_eqIntSS_L0, h, h2]
  have one := s_laws_eqIntS (pti ps i) (pti qs i) (hp _ (pti_mem h))
  have key : (pti ps i = pti qs i) → ps.take (i + 1) = qs.take (i + 1) := by
    intro e
    rw [List.take_succ_eq_append_getElem h, List.take_succ_eq_append_getElem h2, he, ← pti_get h, ← pti_get h2, e]
  have key2 : ¬ (pti ps i = pti qs i) → ¬ ps = qs := fun e e2 => e (by rw [e2])
  (repeat' first | assumption | omega | apply And.intro) <;>
  · refine call_on one ?_
    by_cases e : pti ps i = pti qs i
    · simp [e]
      exact ⟨by omega, _, by omega, hJ _ _ _ ⟨i + 1, rfl, h, key e, rfl, rfl⟩⟩
    · simp [e, key2 e]

theorem s_laws_eqBook (W T : Int) (cs : List Bool) (ds ls : List Int) (ps : List (List Int)) (hc : cs.length < 2 ^ 40) (hd : ds.length < 2 ^ 40) (hl : ls.length < 2 ^ 40) (hb : ps.length < 2 ^ 40) (hp : ∀ p ∈ ps, p.length < 2 ^ 40) :
    SoundAt Tryz.prog n_laws_eqBook [bkA W T cs ds ls ps, bkA W T cs ds ls ps] (.v (.bool true)) [.bot, .bot] := by
  refine fn_ok (md := md0) (ms := [false, false]) k_laws_eqBook (by simp) ?_
  simp [c_laws_eqBook]
  refine call_on (s_laws_eqRegion W T W T cs cs hc) ?_
  simp
  refine call_on (s_laws_eqIntS ds ds hd) ?_
  simp
  refine call_on (s_laws_eqIntS ls ls hl) ?_
  simp
  refine call_on (s_laws_eqIntSS ps ps hb hp) ?_
  simp

end Go.Proofs.Dev

namespace Go.Proofs.Dev
-- 1 parameters, results [.t 2], 8 slots, modes [false]
@[simp] abbrev n_slices_Clone_ints : Nat := 159

def c_slices_Clone_ints : ACode := .seq (.reg [.o 2 .mv [.c (.os 1 [])]]) <| .seq (.seq (.reg [.m 3 0, .o 4 (.nilq false) [.t 3]]) <|
 .cond (.t 4) ( .seq (.reg [.o 2 .mv [.c (.os 1 [])]]) <| .ret) ( .skip)) <| .seq (.reg [.o 5 (.bsl 1) [], .m 6 0, .o 7 (.app 1 24 false) [.t 5, .t 6],
 .m 2 7]) <| .ret

-- 1 parameters, results [.t 2], 6 slots, modes [false]
@[simp] abbrev n_impl_clone_ints : Nat := 124

def c_impl_clone_ints : ACode := .seq (.reg [.o 2 .mv [.c (.os 1 [])]]) <| .seq (.reg [.m 3 0, .o 4 (.call 159 []) [.t 3], .o 5 (.call 145 []) [.t 4],
 .m 2 5]) <| .ret

-- 2 parameters, results [.t 4, .t 5], 72 slots, modes [false, false]
@[simp] abbrev n_impl_Book_laidBy : Nat := 125

abbrev c_impl_Book_laidBy_p0 : Plan := .al (.o 25 (.call 160 []) [.t 16, .t 20, .t 22, .t 24]) ( .take (.e 26 0 25) <| .take (.e 27 1 25) <| .take (.m 4 26) <| .take (.m 5 27) <| .done)
abbrev c_impl_Book_laidBy_p1 : Plan := .al (.o 37 (.call 161 []) [.t 30, .t 34, .t 36]) ( .take (.e 38 0 37) <| .take (.e 39 1 37) <| .take (.m 4 38) <| .take (.m 5 39) <| .done)
abbrev c_impl_Book_laidBy_p2 : Plan := .al (.o 49 (.call 162 []) [.t 42, .t 46, .t 48]) ( .take (.e 50 0 49) <| .take (.e 51 1 49) <| .take (.m 4 50) <| .take (.m 5 51) <| .done)
abbrev c_impl_Book_laidBy_p3 : Plan := .al (.o 63 (.call 163 []) [.t 54, .t 58, .t 62]) ( .take (.m 7 63) <| .done)
abbrev c_impl_Book_laidBy_p4 : Plan := .alt (.la 16 3 6) ( .al (.l 24 23) c_impl_Book_laidBy_p0) <| .al (.l 24 23) ( .al (.la 16 3 6) c_impl_Book_laidBy_p0)
abbrev c_impl_Book_laidBy_p5 : Plan := .alt (.la 16 3 6) ( .al (.l 22 21) c_impl_Book_laidBy_p0) <| .al (.l 22 21) ( .al (.la 16 3 6) c_impl_Book_laidBy_p0)
abbrev c_impl_Book_laidBy_p6 : Plan := .alt (.la 16 3 6) ( .al (.l 20 19) c_impl_Book_laidBy_p0) <| .al (.l 20 19) ( .al (.la 16 3 6) c_impl_Book_laidBy_p0)
abbrev c_impl_Book_laidBy_p7 : Plan := .alt (.l 22 21) ( .al (.l 24 23) c_impl_Book_laidBy_p0) <| .al (.l 24 23) ( .al (.l 22 21) c_impl_Book_laidBy_p0)
abbrev c_impl_Book_laidBy_p8 : Plan := .alt (.l 20 19) ( .al (.l 24 23) c_impl_Book_laidBy_p0) <| .al (.l 24 23) ( .al (.l 20 19) c_impl_Book_laidBy_p0)
abbrev c_impl_Book_laidBy_p9 : Plan := .alt (.l 20 19) ( .al (.l 22 21) c_impl_Book_laidBy_p0) <| .al (.l 22 21) ( .al (.l 20 19) c_impl_Book_laidBy_p0)
def c_impl_Book_laidBy : ACode := .seq (.reg [.o 3 .box [.t 1], .o 4 .mv [.c (.os 1 [])], .o 5 .mv [.kb false]]) <| .seq (.reg [.m 8 0, .o 9 .nilck [.t 8],
 .f 10 0 9, .la 11 3 10, .o 6 (.alloc rz) [], .s (.store 3) [.t 6, .t 11]]) <| .seq (.seq (.reg [.f 12 0 3, .l 13 12]) <|
 .block 0 ( .seq (.reg [.o 15 (.bin .eql 0) [.t 13, .k 0], .m 14 15]) <| .cond (.t 14) ( .seq (.draw ( .take (.m 17 0) <| .take (.o 18 .nilck [.t 17]) <|
 .take (.f 19 4 18) <| .take (.f 21 1 3) <| .take (.f 23 2 3) <|
 .alt (.la 16 3 6) ( .alt (.l 20 19) c_impl_Book_laidBy_p7 <|
 .alt (.l 22 21) c_impl_Book_laidBy_p8 <|
 .al (.l 24 23) c_impl_Book_laidBy_p9) <|
 .alt (.l 20 19) ( .alt (.la 16 3 6) c_impl_Book_laidBy_p7 <|
 .alt (.l 22 21) c_impl_Book_laidBy_p4 <|
 .al (.l 24 23) c_impl_Book_laidBy_p5) <|
 .alt (.l 22 21) ( .alt (.la 16 3 6) c_impl_Book_laidBy_p8 <|
 .alt (.l 20 19) c_impl_Book_laidBy_p4 <|
 .al (.l 24 23) c_impl_Book_laidBy_p6) <|
 .al (.l 24 23) ( .alt (.la 16 3 6) c_impl_Book_laidBy_p9 <|
 .alt (.l 20 19) c_impl_Book_laidBy_p5 <|
 .al (.l 22 21) c_impl_Book_laidBy_p6))) <| .ret) ( .seq (.reg [.o 29 (.bin .eql 0) [.t 13,
 .k 1], .m 28 29]) <| .cond (.t 28) ( .seq (.draw ( .take (.m 31 0) <| .take (.o 32 .nilck [.t 31]) <| .take (.f 33 4 32) <| .take (.f 35 1 3) <|
 .alt (.la 30 3 6) ( .alt (.l 34 33) ( .al (.l 36 35) c_impl_Book_laidBy_p1) <| .al (.l 36 35) ( .al (.l 34 33) c_impl_Book_laidBy_p1)) <|
 .alt (.l 34 33) ( .alt (.la 30 3 6) ( .al (.l 36 35) c_impl_Book_laidBy_p1) <| .al (.l 36 35) ( .al (.la 30 3 6) c_impl_Book_laidBy_p1)) <| .al (.l 36 35) ( .alt (.la 30 3 6) ( .al (.l 34 33) c_impl_Book_laidBy_p1) <|
 .al (.l 34 33) ( .al (.la 30 3 6) c_impl_Book_laidBy_p1)))) <| .ret) ( .seq (.reg [.o 41 (.bin .eql 0) [.t 13, .k 2], .m 40 41]) <| .cond (.t 40) ( .seq (.draw ( .take (.m 43 0) <|
 .take (.o 44 .nilck [.t 43]) <| .take (.f 45 4 44) <| .take (.f 47 1 3) <|
 .alt (.la 42 3 6) ( .alt (.l 46 45) ( .al (.l 48 47) c_impl_Book_laidBy_p2) <| .al (.l 48 47) ( .al (.l 46 45) c_impl_Book_laidBy_p2)) <|
 .alt (.l 46 45) ( .alt (.la 42 3 6) ( .al (.l 48 47) c_impl_Book_laidBy_p2) <| .al (.l 48 47) ( .al (.la 42 3 6) c_impl_Book_laidBy_p2)) <| .al (.l 48 47) ( .alt (.la 42 3 6) ( .al (.l 46 45) c_impl_Book_laidBy_p2) <|
 .al (.l 46 45) ( .al (.la 42 3 6) c_impl_Book_laidBy_p2)))) <| .ret) ( .seq (.reg [.o 53 (.bin .eql 0) [.t 13, .k 3], .m 52 53]) <| .cond (.t 52) ( .seq (.draw ( .take (.m 55 0) <|
 .take (.o 56 .nilck [.t 55]) <| .take (.f 57 3 56) <| .take (.m 59 0) <| .take (.o 60 .nilck [.t 59]) <| .take (.f 61 4 60) <|
 .alt (.la 54 3 6) ( .alt (.l 58 57) ( .al (.l 62 61) c_impl_Book_laidBy_p3) <|
 .al (.l 62 61) ( .al (.l 58 57) c_impl_Book_laidBy_p3)) <|
 .alt (.l 58 57) ( .alt (.la 54 3 6) ( .al (.l 62 61) c_impl_Book_laidBy_p3) <|
 .al (.l 62 61) ( .al (.la 54 3 6) c_impl_Book_laidBy_p3)) <|
 .al (.l 62 61) ( .alt (.la 54 3 6) ( .al (.l 58 57) c_impl_Book_laidBy_p3) <|
 .al (.l 58 57) ( .al (.la 54 3 6) c_impl_Book_laidBy_p3)))) <| .seq (.reg [.m 64 7, .m 65 7, .m 66 0,
 .o 67 .nilck [.t 66], .f 68 4 67, .l 69 68, .o 70 (.call 164 []) [.t 65, .t 69], .o 71 (.un .not) [.t 70], .m 4 64, .m 5 71]) <| .ret) ( .skip)))))) <|
 .seq (.reg [.o 4 .mv [.c (.os 1 [])], .o 5 .mv [.kb false]]) <| .ret

-- 2 parameters, results [.t 4], 90 slots, modes [false, false]
@[simp] abbrev n_impl_Book_do : Nat := 65
def c_impl_Book_do_T0 : ACode := .seq (.reg [.m 76 0, .m 77 0, .m 78 6, .m 79 8, .m 80 8, .n 81 80, .o 82 (.bin .sub 0) [.t 81, .k 20],
 .o 83 (.mnx false) [.k 0, .t 82], .o 84 (.slice 1 false true false false) [.t 79, .t 83], .o 85 (.call 124 []) [.t 84], .o 86 .nilck [.t 76], .f 87 4 86,
 .s (.store 1) [.t 87, .t 78], .o 88 .nilck [.t 77], .f 89 5 88, .s (.store 1) [.t 89, .t 85]]) <| .lg <| .seq (.reg [.o 4 .mv [.kb true]]) <| .ret

abbrev c_impl_Book_do_T1_p0 : Plan := .al (.o 75 (.app 1 24 false) [.t 69, .t 74]) ( .take (.m 8 75) <| .done)
abbrev c_impl_Book_do_T1_p1 : Plan := .alt (.o 69 (.call 124 []) [.t 68]) ( .al (.o 74 (.bsl 1) [.t 73]) c_impl_Book_do_T1_p0) <| .al (.o 74 (.bsl 1) [.t 73]) ( .al (.o 69 (.call 124 []) [.t 68]) c_impl_Book_do_T1_p0)
def c_impl_Book_do_T1 : ACode := .seq (.draw ( .take (.m 65 0) <| .take (.o 66 .nilck [.t 65]) <| .take (.f 67 5 66) <| .take (.m 70 0) <|
 .take (.o 71 .nilck [.t 70]) <| .take (.f 72 4 71) <|
 .alt (.l 68 67) ( .alt (.o 69 (.call 124 []) [.t 68]) ( .al (.l 73 72) ( .al (.o 74 (.bsl 1) [.t 73]) c_impl_Book_do_T1_p0)) <|
 .al (.l 73 72) c_impl_Book_do_T1_p1) <|
 .al (.l 73 72) ( .alt (.l 68 67) c_impl_Book_do_T1_p1 <|
 .al (.o 74 (.bsl 1) [.t 73]) ( .al (.l 68 67) ( .al (.o 69 (.call 124 []) [.t 68]) c_impl_Book_do_T1_p0))))) <| .lg c_impl_Book_do_T0

abbrev c_impl_Book_do_T2_p0 : Plan := .al (.g 62 (.call 107 []) [.t 56, .t 60, .t 61] 52 false) ( .take (.g 63 (.un .not) [.t 62] 52 false) <| .take (.o 64 .pick [.t 52, .kb true, .t 63]) <| .done)
def c_impl_Book_do_T2 : ACode := .seq (.reg [.m 45 0, .la 46 3 3, .o 47 (.call 125 []) [.t 45, .t 46], .m 44 47, .e 48 0 44, .e 49 1 44, .m 6 48, .m 7 49]) <|
 .seq (.seq (.draw ( .take (.m 50 7) <| .take (.o 51 (.un .not) [.t 50]) <| .take (.m 52 51) <| .take (.mg 53 0 52 false) <|
 .take (.g 54 .nilck [.t 53] 52 false) <| .take (.fg 55 0 54 52 false) <| .take (.mg 57 0 52 false) <| .take (.g 58 .nilck [.t 57] 52 false) <|
 .take (.fg 59 3 58 52 false) <| .take (.mg 61 6 52 false) <|
 .alt (.g 56 (.load true 3) [.t 55] 52 false) ( .al (.lg 60 59 52 false) c_impl_Book_do_T2_p0) <|
 .al (.lg 60 59 52 false) ( .al (.g 56 (.load true 3) [.t 55] 52 false) c_impl_Book_do_T2_p0))) <|
 .cond (.t 64) ( .seq (.reg [.o 4 .mv [.kb false]]) <| .ret) ( .skip)) <| .lg c_impl_Book_do_T1

abbrev c_impl_Book_do_D_p0 : Plan := .take (.o 40 .nilck [.t 22]) <| .take (.f 41 4 40) <| .al (.s (.store 1) [.t 41, .t 31]) ( .take (.o 42 .nilck [.t 23]) <| .take (.f 43 5 42) <| .al (.s (.store 1) [.t 43, .t 39]) ( .done))
def c_impl_Book_do_D : ACode := .draw ( .take (.m 22 0) <| .take (.m 23 0) <| .take (.m 24 0) <| .take (.o 25 .nilck [.t 24]) <| .take (.f 26 5 25) <|
 .take (.m 28 5) <| .take (.o 29 (.bin .sub 0) [.t 28, .k 1]) <| .take (.m 32 0) <| .take (.o 33 .nilck [.t 32]) <| .take (.f 34 5 33) <| .take (.m 36 5) <|
 .take (.o 37 (.bin .sub 0) [.t 36, .k 1]) <| .alt (.l 27 26) ( .take (.o 30 (.iadr 1) [.t 27, .t 29]) <|
 .alt (.l 31 30) ( .al (.l 35 34) ( .take (.o 38 (.slice 1 false false true false) [.t 35, .t 37]) <|
 .al (.o 39 (.call 124 []) [.t 38]) c_impl_Book_do_D_p0)) <| .al (.l 35 34) ( .take (.o 38 (.slice 1 false false true false) [.t 35, .t 37]) <|
 .alt (.l 31 30) ( .al (.o 39 (.call 124 []) [.t 38]) c_impl_Book_do_D_p0) <|
 .al (.o 39 (.call 124 []) [.t 38]) ( .al (.l 31 30) c_impl_Book_do_D_p0))) <|
 .al (.l 35 34) ( .take (.o 38 (.slice 1 false false true false) [.t 35, .t 37]) <| .alt (.l 27 26) ( .take (.o 30 (.iadr 1) [.t 27, .t 29]) <|
 .alt (.l 31 30) ( .al (.o 39 (.call 124 []) [.t 38]) c_impl_Book_do_D_p0) <|
 .al (.o 39 (.call 124 []) [.t 38]) ( .al (.l 31 30) c_impl_Book_do_D_p0)) <|
 .al (.o 39 (.call 124 []) [.t 38]) ( .al (.l 27 26) ( .take (.o 30 (.iadr 1) [.t 27, .t 29]) <| .al (.l 31 30) c_impl_Book_do_D_p0))))

def c_impl_Book_do : ACode := .seq (.reg [.o 3 .box [.t 1], .o 4 .mv [.kb false]]) <| .seq (.seq (.reg [.la 9 3 3, .o 10 (.call 123 []) [.t 9],
 .o 11 (.un .not) [.t 10]]) <| .cond (.t 11) ( .seq (.reg [.o 4 .mv [.kb false]]) <| .ret) ( .skip)) <| .seq (.seq (.reg [.m 12 0, .o 13 .nilck [.t 12],
 .f 14 5 13, .l 15 14, .n 16 15, .m 5 16]) <| .seq (.reg [.f 17 0 3, .l 18 17, .o 19 (.bin .eql 0) [.t 18, .k 4]]) <| .cond (.t 19) ( .seq (.seq (.reg [.m 20 5,
 .o 21 (.bin .eql 0) [.t 20, .k 0]]) <| .cond (.t 21) ( .seq (.reg [.o 4 .mv [.kb false]]) <| .ret) ( .skip)) <| .lg <| .seq (c_impl_Book_do_D) <| .lg <|
 .seq (.reg [.o 4 .mv [.kb true]]) <| .ret) ( .skip)) <| c_impl_Book_do_T2

-- 2 parameters, results [.c 4 true 6, .t 5], 18 slots, modes [false, false]
@[simp] abbrev n_impl_BookDo : Nat := 18

def c_impl_BookDo : ACode := .seq (.reg [.o 2 .box [.t 0], .o 3 .box [.t 1], .o 4 (.alloc bz) [], .o 5 .mv [.kb false]]) <| .seq (.seq (.reg [.la 8 6 2,
 .o 9 (.call 19 []) [.t 8], .o 10 (.un .not) [.t 9]]) <| .cond (.t 10) ( .seq (.reg [.o 11 (.build bz []) [], .s (.store 6) [.t 4, .t 11],
 .o 5 .mv [.kb false]]) <| .ret) ( .skip)) <| .seq (.reg [.la 12 6 2, .o 13 (.call 64 []) [.t 12], .o 6 (.alloc bz) [], .s (.store 6) [.t 6, .t 13]]) <|
 .seq (.reg [.la 14 3 3, .o 15 (.call 65 []) [.t 6, .t 14], .m 7 15]) <| .seq (.reg [.la 16 6 6, .m 17 7, .s (.store 6) [.t 4, .t 16], .m 5 17]) <| .ret

-- 2 parameters, results [.c 4 true 6, .t 5], 34 slots, modes [false, false]
@[simp] abbrev n_impl_BookRun : Nat := 40
def c_impl_BookRun_L0 : ACode := .seq (.reg [.o 24 (.bin .lss 0) [.t 23, .t 22]]) <| .seq (.cond (.t 24) ( .skip) ( .exit 0)) <|
 .seq (.block 1 ( .seq (.reg [.o 25 (.iadr 3) [.t 21, .t 23], .la 26 3 25, .o 9 (.alloc dz) [], .s (.store 3) [.t 9, .t 26]]) <| .seq (.reg [.la 27 3 9,
 .o 28 (.call 65 []) [.t 6, .t 27]]) <| .cond (.t 28) ( .reg [.m 29 7, .o 30 (.bin .add 0) [.t 29, .k 1], .m 7 30]) ( .skip))) <|
 .reg [.o 31 (.bin .add 0) [.t 23, .k 1], .m 23 31]

def c_impl_BookRun : ACode := .seq (.reg [.o 2 .box [.t 0], .o 4 (.alloc bz) [], .o 5 .mv [.k 0]]) <| .seq (.seq (.reg [.la 10 6 2, .o 11 (.call 19 []) [.t 10],
 .o 12 (.un .not) [.t 11], .m 13 12, .mg 14 1 13 false, .g 15 (.len false) [.t 14] 13 false, .g 16 (.bin .gtr 0) [.t 15, .k 40] 13 false, .o 17 .pick [.t 13,
 .kb true, .t 16]]) <| .cond (.t 17) ( .seq (.reg [.o 18 (.build bz []) [], .s (.store 6) [.t 4, .t 18], .o 5 .mv [.k 0]]) <| .ret) ( .skip)) <|
 .seq (.reg [.la 19 6 2, .o 20 (.call 64 []) [.t 19], .o 6 (.alloc bz) [], .s (.store 6) [.t 6, .t 20]]) <| .seq (.reg [.o 7 .mv [.k 0]]) <|
 .seq (.seq (.reg [.m 21 1, .n 22 21, .o 23 .mv [.k 0]]) <| .block 0 ( .loop [(21, 3)] [4, 6, 7, 21, 22, 23] c_impl_BookRun_L0)) <| .seq (.reg [.la 32 6 6,
 .m 33 7, .s (.store 6) [.t 4, .t 32], .m 5 33]) <| .ret


end Go.Proofs.Dev

namespace Go.Proofs.Dev
set_option linter.unusedSimpArgs false
set_option maxRecDepth 100000

@[simp] def deedV (kind spot way : Int) : AV := .agg [.v (.int .i64 kind), .v (.int .i64 spot), .v (.int .i64 way)]
attribute [simp] anil
def rawL (us : List Value) : List AV := us.map AV.v
@[simp] theorem rawL_length (us : List Value) : (rawL us).length = us.length := by simp [rawL]
theorem oneE_oss (ps : List (List Int)) : oneE (oss ps) := by
  intro e he
  obtain ⟨p, _, rfl⟩ := List.mem_map.1 he
  rfl
theorem vwL_raw (c : Nat) (us : List Value) : vwL c (rawL us) = rawL us := by
  induction us with
  | nil => rfl
  | cons u us ih => show vw c (.v u) :: vwL c (rawL us) = .v u :: rawL us; rw [ih]; rfl

@[simp] def mdo (f : Nat) : List Bool := if f = 65 then [true, false] else []
@[simp] def boxO (W T : Int) (cs : List Bool) (ds ls : List Int) (ps : List (List Int)) : AV := .op [.v (.int .i64 W), .v (.int .i64 T), .os 1 (bools cs), .os 1 (ints ds), .os 1 (ints ls), .os 1 (oss ps)]

set_option maxHeartbeats 4000000 in
theorem s_impl_do_back (k : cFn Tryz.prog n_impl_Book_do 90 [.t 4] c_impl_Book_do) (W T : Int) (cs : List Bool) (ds ls q : List Int) (qs : List (List Int)) (spot way : Int)
    (hq : qs.length ≤ 100)
    (hneeds : SoundAt Tryz.prog 123 [deedV 4 spot way] (.v (.bool true)) [.bot])
    (hclone : ∀ us : List Value, us.length < 2 ^ 40 → (∀ u ∈ us, u.oneCell' = true) → SoundAt Tryz.prog 124 [.sl 1 1 (rawL us)] (.os 1 (rawL us)) [.bot]) :
    SoundAt Tryz.prog n_impl_Book_do [boxO W T cs ds ls (qs ++ [q]), deedV 4 spot way] (.v (.bool true)) [boxO W T cs ds q qs, .bot] := by
  refine fn_ok (md := mdo) (ms := [true, false]) k (by simp) ?_
  simp [c_impl_Book_do]
  refine call_on hneeds ?_
  have e1 : ¬ ((qs.length : Int) + 1 = 0) := by omega
  simp [e1]
  refine Lg.takeAll 4 _ rfl (oneE_oss _) ?_
  intro us hus hok
  obtain ⟨vs, v, rfl⟩ : ∃ vs v, us = vs ++ [v] := by
    rcases List.eq_nil_or_concat us with rfl | ⟨vs, v, h⟩
    · simp [oss] at hus
    · exact ⟨vs, v, by rw [h, List.concat_eq_append]⟩
  have hvs : vs.length = qs.length := by simp [oss] at hus; exact hus
  have hv1 : v.oneCell' = true := hok (okL_oss _) v (by simp)
  have hone : ∀ u ∈ vs, u.oneCell' = true := fun u hu => hok (okL_oss _) u (by simp [hu])
  simp [takeAllH]
  refine Lg.split 6 vs.length (vs ++ [v]) (oss (qs ++ [q])) rfl ?_
  have s1 : (vs ++ [v]).take vs.length = vs := by simp
  have s2 : (vs ++ [v]).drop vs.length = [v] := by simp
  have s3 : (oss (qs ++ [q])).take vs.length = oss qs := by rw [hvs]; simp [oss]
  have s4 : (oss (qs ++ [q])).drop vs.length = [.os 1 (ints q)] := by rw [hvs]; simp [oss]
  simp [splitH, s1, s2, s3, s4]
  refine Lg.done ?_
  have hget : (vs.map AV.v ++ [AV.v v])[qs.length]? = some (.v v) := by rw [← hvs]; simp
  have hw : (vs.map AV.v ++ [AV.v v]).take qs.length = rawL vs := by rw [← hvs]; simp [rawL]
  have clone := hclone vs (by omega) hone
  have hvl := hvs
  have htk : (rawL vs).take vs.length = rawL vs := List.take_of_length_le (by simp)
  have fin : ∀ E : ES, get E 0 = .lp 0 0 0 0 → get E 90 = .lp 0 0 0 0 → get E 91 = deedV 4 spot way →
      Lg (awp Tryz.prog mdo (.seq (.reg [⟨some 4, .mv, [.kb true], none⟩]) .ret) (athen (awp Tryz.prog mdo c_impl_Book_do_T2 (Fin [RV.t 4] 90 2 [true, false] (.v (.bool true)) [boxO W T cs ds q qs, .bot])) (Fin [RV.t 4] 90 2 [true, false] (.v (.bool true)) [boxO W T cs ds q qs, .bot]))) E
        [some (.box [.v (.int .i64 W), .v (.int .i64 T), .ls 1 1 0 cs.length, .ls 1 2 0 ds.length, .v v, .ls 1 8 0 qs.length]),
          some (.arr 1 (bools cs)), some (.arr 1 (ints ds)), some (.arr 1 (ints ls)), some (.arr 1 (vs.map AV.v ++ [AV.v v])),
          some (.box [.v (.int .i64 4), .v (.int .i64 spot), .v (.int .i64 way)]), some (.pool vs (oss qs)), some (.pool [v] [.os 1 (ints q)]), some (.arr 1 (rawL vs))] := by
    intro E e0 e90 e91
    refine Lg.unpool 7 1 0 4 v (ints q) _ rfl rfl rfl ?_
    simp [unpoolH]
    refine Lg.implode 8 6 vs [] [] (oss qs) (by simp [rawL]) rfl (by omega) (by intro e he; cases he) (by intro e he; cases he) (oneE_oss qs) ?_
    simp [implodeH]
    refine Lg.done ?_
    have hts : (oss qs).take qs.length = oss qs := List.take_of_length_le (by simp [oss])
    have htq : (ints q).take q.length = ints q := take_ints_all q
    simp [get_purgeE, e0, e90, e91, hvs, hts, htq]
  simp [c_impl_Book_do_D, hget]
  (repeat' first | omega | apply And.intro) <;>
  · refine call_on clone ?_
    simp [hw, vwL_raw, hvs, htk]
    first
    | exact ⟨hv1, fin _ rfl rfl rfl⟩
    | exact ⟨by omega, hv1, fin _ rfl rfl rfl⟩
    | exact ⟨by omega, by omega, hv1, fin _ rfl rfl rfl⟩
end Go.Proofs.Dev

namespace Go.Proofs.Dev
set_option linter.unusedSimpArgs false
set_option maxRecDepth 100000

def bkPast (ls : List Int) (ps : List (List Int)) : List (List Int) := (ps ++ [ls]).drop (ps.length + 1 - 20)

abbrev doF (W T : Int) (cs : List Bool) (ds n : List Int) (ps : List (List Int)) := Fin [RV.t 4] 90 2 [true, false] (.v (.bool true)) [boxO W T cs ds n ps, .bot]

theorem bkPast_oss (ls : List Int) (ps : List (List Int)) (d : Nat) (hd : d = ps.length + 1 - 20) : (oss ps).drop d ++ [.os 1 (ints ls)] = oss (bkPast ls ps) := by
  have hd2 : d ≤ ps.length := by omega
  unfold bkPast
  rw [← hd, List.drop_append_of_le_length hd2, oss_append, oss_one]
  simp [oss]

set_option maxHeartbeats 8000000 in
theorem do_T0 (W T : Int) (cs : List Bool) (ds ls n : List Int) (ps : List (List Int)) (kind spot way : Int) (us : List Value) (hp : ps.length ≤ 100) (hn : n.length ≤ 100) (hus : us.length = ps.length) (hok : ∀ u ∈ us, u.oneCell' = true)
    (hclone : ∀ us : List Value, us.length < 2 ^ 40 → (∀ u ∈ us, u.oneCell' = true) → SoundAt Tryz.prog 124 [.sl 1 1 (rawL us)] (.os 1 (rawL us)) [.bot]) (E : ES)
    (e0 : get E 0 = .lp 0 0 0 0) (e6 : get E 6 = .ls 1 6 0 n.length) (e8 : get E 8 = .ls 1 10 0 (ps.length + 1)) (e90 : get E 90 = .lp 0 0 0 0) (e91 : get E 91 = deedV kind spot way) :
    Lg (awp Tryz.prog mdo c_impl_Book_do_T0 (doF W T cs ds n (bkPast ls ps))) E
      [some (.box [.v (.int .i64 W), .v (.int .i64 T), .ls 1 1 0 cs.length, .ls 1 2 0 ds.length, .ls 1 3 0 ls.length, .ls 1 4 0 ps.length]),
        some (.arr 1 (bools cs)), some (.arr 1 (ints ds)), none, some (.arr 1 (us.map AV.v)),
        some (.box [.v (.int .i64 kind), .v (.int .i64 spot), .v (.int .i64 way)]), some (.arr 1 (ints n)), some (.pool us (oss ps)), none, none,
        some (.arr 1 (us.map AV.v ++ [.os 1 (ints ls)]))] := by
  refine Lg.takeAll 10 _ rfl (oneE_append.2 ⟨oneE_vals us, by intro e he; simp at he; subst he; rfl⟩) ?_
  intro us2 hus2 hok2
  have hl2 : us2.length = ps.length + 1 := by rw [hus2]; simp [hus]
  simp [takeAllH]
  refine Lg.done ?_
  obtain ⟨d, hd⟩ : ∃ d : Nat, d = ps.length + 1 - 20 := ⟨_, rfl⟩
  have hm : (if (20 : Int) < ps.length + 1 then (ps.length : Int) + 1 - 20 else 0) = d := by split <;> omega
  have hd2 : d ≤ ps.length := by omega
  have hd3 : d ≤ ps.length + 1 := by omega
  have hone2 : ∀ u ∈ us2.drop d, u.oneCell' = true := by
    intro u hu
    refine hok2 ?_ u (List.mem_of_mem_drop hu)
    have h1 : ∀ us : List Value, (∀ u ∈ us, u.oneCell' = true) → okL (us.map AV.v ++ [.os 1 (ints ls)]) = true := by
      intro us
      induction us with
      | nil => intro _; simp [okL, okE]
      | cons u us ih =>
        intro h
        show (okE (.v u) && okL (us.map AV.v ++ [.os 1 (ints ls)])) = true
        have h2 : okE (.v u) = true := h u (by simp)
        rw [h2, ih fun x hx => h x (by simp [hx])]
        rfl
    exact h1 us hok
  have clone := hclone (us2.drop d) (by simp; omega) hone2
  have hw1 : ((us2.map AV.v).drop d).take (ps.length + 1 - d) = rawL (us2.drop d) := by
    rw [← List.map_drop]
    exact List.take_of_length_le (by simp; omega)
  have hlen : (us2.drop d).length = ps.length + 1 - d := by simp [hl2]
  simp [c_impl_Book_do_T0, get_purgeE, e0, e6, e8, e90, e91, hm, hd3]
  refine ⟨by omega, ?_⟩
  refine call_on clone ?_
  have hle : d + (ps.length + 1 - d) ≤ us2.length := by omega
  simp [hw1, vwL_raw, get_purgeE, e0, e6, e8, e90, e91, hlen, hle]
  refine Lg.split 11 d us2 _ rfl ?_
  have s1 : (us.map AV.v ++ [AV.os 1 (ints ls)]).drop d = (us.drop d).map AV.v ++ [.os 1 (ints ls)] := by
    rw [List.drop_append_of_le_length (by simp; omega), List.map_drop]
  simp only [splitH, s1]
  simp
  refine Lg.implode 12 13 (us2.drop d) [] [] ((us.drop d).map AV.v ++ [.os 1 (ints ls)]) (by simp [rawL]) (by simp) (by omega) (by intro e he; cases he) (by intro e he; cases he) (oneE_append.2 ⟨oneE_vals _, by intro e he; simp at he; subst he; rfl⟩) ?_
  simp [implodeH]
  refine Lg.split 7 d us (oss ps) rfl ?_
  simp [splitH]
  refine Lg.implode 12 14 (us.drop d) [] [.os 1 (ints ls)] ((oss ps).drop d) (by simp) (by simp) (by omega) (by intro e he; cases he) (by intro e he; simp at he; subst he; rfl) (fun e he => oneE_oss ps e (List.mem_of_mem_drop he)) ?_
  simp [implodeH]
  rw [bkPast_oss ls ps d hd]
  refine Lg.done ?_
  have htq : (ints n).take n.length = ints n := take_ints_all n
  have hbl : (bkPast ls ps).length = ps.length + 1 - d := by unfold bkPast; rw [← hd]; simp
  have htb : (oss (bkPast ls ps)).take (ps.length + 1 - d) = oss (bkPast ls ps) := List.take_of_length_le (by simp [oss, hbl])
  simp [get_purgeE, e0, e6, e8, e90, e91, htq, hbl, htb]

set_option maxHeartbeats 8000000 in
theorem do_T1 (W T : Int) (cs : List Bool) (ds ls n : List Int) (ps : List (List Int)) (kind spot way : Int) (hp : ps.length ≤ 100) (hls : ls.length ≤ 100) (hn : n.length ≤ 100)
    (hclone : ∀ us : List Value, us.length < 2 ^ 40 → (∀ u ∈ us, u.oneCell' = true) → SoundAt Tryz.prog 124 [.sl 1 1 (rawL us)] (.os 1 (rawL us)) [.bot]) (E : ES)
    (e0 : get E 0 = .lp 0 0 0 0) (e6 : get E 6 = .ls 1 6 0 n.length) (e90 : get E 90 = .lp 0 0 0 0) (e91 : get E 91 = deedV kind spot way) :
    Lg (awp Tryz.prog mdo c_impl_Book_do_T1 (doF W T cs ds n (bkPast ls ps))) E
      [some (.box [.v (.int .i64 W), .v (.int .i64 T), .ls 1 1 0 cs.length, .ls 1 2 0 ds.length, .ls 1 3 0 ls.length, .ls 1 4 0 ps.length]),
        some (.arr 1 (bools cs)), some (.arr 1 (ints ds)), some (.arr 1 (ints ls)), some (.arr 1 (oss ps)),
        some (.box [.v (.int .i64 kind), .v (.int .i64 spot), .v (.int .i64 way)]), some (.arr 1 (ints n))] := by
  refine Lg.takeAll 4 _ rfl (oneE_oss ps) ?_
  intro us hus hok
  have hl : us.length = ps.length := by rw [hus]; simp [oss]
  have hone : ∀ u ∈ us, u.oneCell' = true := hok (okL_oss ps)
  have clone := hclone us (by omega) hone
  have htk : (us.map AV.v).take ps.length = rawL us := by rw [← hl]; exact List.take_of_length_le (by simp)
  have hokr : okL (rawL us) = true := by
    clear hok hus clone htk hl
    induction us with
    | nil => rfl
    | cons u us ih =>
      have h2 : okE (.v u) = true := hone u (by simp)
      show (okE (.v u) && okL (rawL us)) = true
      rw [h2, ih fun x hx => hone x (by simp [hx])]
      rfl
  simp [takeAllH]
  refine Lg.done ?_
  simp [c_impl_Book_do_T1, get_purgeE, e0, e6, e90, e91]
  (repeat' first | omega | apply And.intro) <;>
  · refine call_on clone ?_
    simp [htk, vwL_raw, get_purgeE, e0, e6, e90, e91, hl]
    exact ⟨by omega, do_T0 W T cs ds ls n ps kind spot way us hp hn hl hone hclone _ (by simp [get_purgeE, e0]) (by simp [get_purgeE, e6]) (by simp) (by simp [get_purgeE, e90]) (by simp [get_purgeE, e91])⟩

set_option maxHeartbeats 8000000 in
theorem s_impl_do_lay (k : cFn Tryz.prog n_impl_Book_do 90 [.t 4] c_impl_Book_do) (W T : Int) (cs : List Bool) (ds ls n : List Int) (ps : List (List Int)) (kind spot way : Int) (b fb : Bool)
    (hp : ps.length ≤ 100) (hkind : kind ≠ 4) (hls : ls.length ≤ 100) (hn : n.length ≤ 100)
    (hneeds : SoundAt Tryz.prog 123 [deedV kind spot way] (.v (.bool true)) [.bot])
    (hby : SoundAt Tryz.prog 125 [.vp 1 [.v (.int .i64 W), .v (.int .i64 T), .sl 1 1 (bools cs), .sl 1 1 (ints ds), .sl 1 1 (ints ls), .sl 1 1 (sls 1 ps)] 0, deedV kind spot way] (.tup [.os 1 (ints n), .v (.bool b)]) [.bot, .bot])
    (hfair : SoundAt Tryz.prog 107 [.agg [.v (.int .i64 W), .v (.int .i64 T), .sl 1 1 (bools cs)], .sl 1 1 (ints ds), .sl 1 1 (ints n)] (.v (.bool fb)) [.bot, .bot, .bot])
    (hclone : ∀ us : List Value, us.length < 2 ^ 40 → (∀ u ∈ us, u.oneCell' = true) → SoundAt Tryz.prog 124 [.sl 1 1 (rawL us)] (.os 1 (rawL us)) [.bot]) :
    SoundAt Tryz.prog n_impl_Book_do [boxO W T cs ds ls ps, deedV kind spot way] (.v (.bool (b && fb))) [if (b && fb) = true then boxO W T cs ds n (bkPast ls ps) else boxO W T cs ds ls ps, .bot] := by
  refine fn_ok (md := mdo) (ms := [true, false]) k (by simp) ?_
  have htl : (ints ls).take ls.length = ints ls := take_ints_all ls
  have hto : (oss ps).take ps.length = oss ps := List.take_of_length_le (by simp [oss])
  cases b with
  | false =>
    simp [c_impl_Book_do]
    refine call_on hneeds ?_
    simp [hkind, c_impl_Book_do_T2]
    refine call_on hby ?_
    simp [htl, hto]
  | true =>
  cases fb with
  | false =>
    simp [c_impl_Book_do]
    refine call_on hneeds ?_
    simp [hkind, c_impl_Book_do_T2]
    refine call_on hby ?_
    simp
    (repeat' first | omega | apply And.intro) <;>
    · refine call_on hfair ?_
      simp [htl, hto]
  | true =>
    simp [c_impl_Book_do]
    refine call_on hneeds ?_
    simp [hkind, c_impl_Book_do_T2]
    refine call_on hby ?_
    simp
    (repeat' first | omega | apply And.intro) <;>
    · refine call_on hfair ?_
      simp
      exact do_T1 W T cs ds ls n ps kind spot way hp hls hn hclone _ rfl rfl rfl rfl
end Go.Proofs.Dev

namespace Go.Proofs.Dev
set_option linter.unusedSimpArgs false
set_option maxRecDepth 100000

/-- What do gives: whether it is done, what is laid, what is past. -/
def doRes (named : Bool) (kind : Int) (ls : List Int) (ps : List (List Int)) (n : List Int) (b : Bool) : Bool × List Int × List (List Int) :=
  if named = false then (false, ls, ps) else
  if kind = 4 then (match ps.getLast? with | some q => (true, q, ps.dropLast) | none => (false, ls, ps)) else
  if b then (true, n, bkPast ls ps) else (false, ls, ps)

theorem s_impl_do (k : cFn Tryz.prog n_impl_Book_do 90 [.t 4] c_impl_Book_do) (W T : Int) (cs : List Bool) (ds ls n : List Int) (ps : List (List Int)) (kind spot way : Int) (named b fb : Bool)
    (hp : ps.length ≤ 100) (hls : ls.length ≤ 100) (hn : n.length ≤ 100)
    (hneeds : SoundAt Tryz.prog 123 [deedV kind spot way] (.v (.bool named)) [.bot])
    (hby : named = true → kind ≠ 4 → SoundAt Tryz.prog 125 [.vp 1 [.v (.int .i64 W), .v (.int .i64 T), .sl 1 1 (bools cs), .sl 1 1 (ints ds), .sl 1 1 (ints ls), .sl 1 1 (sls 1 ps)] 0, deedV kind spot way] (.tup [.os 1 (ints n), .v (.bool b)]) [.bot, .bot])
    (hfair : named = true → kind ≠ 4 → SoundAt Tryz.prog 107 [.agg [.v (.int .i64 W), .v (.int .i64 T), .sl 1 1 (bools cs)], .sl 1 1 (ints ds), .sl 1 1 (ints n)] (.v (.bool fb)) [.bot, .bot, .bot])
    (hclone : ∀ us : List Value, us.length < 2 ^ 40 → (∀ u ∈ us, u.oneCell' = true) → SoundAt Tryz.prog 124 [.sl 1 1 (rawL us)] (.os 1 (rawL us)) [.bot]) :
    SoundAt Tryz.prog n_impl_Book_do [boxO W T cs ds ls ps, deedV kind spot way] (.v (.bool (doRes named kind ls ps n (b && fb)).1))
      [boxO W T cs ds (doRes named kind ls ps n (b && fb)).2.1 (doRes named kind ls ps n (b && fb)).2.2, .bot] := by
  have htl : (ints ls).take ls.length = ints ls := take_ints_all ls
  have hto : (oss ps).take ps.length = oss ps := List.take_of_length_le (by simp [oss])
  cases named with
  | false =>
    refine fn_ok (md := mdo) (ms := [true, false]) k (by simp) ?_
    simp [c_impl_Book_do, doRes]
    refine call_on hneeds ?_
    simp [htl, hto]
  | true =>
  by_cases hk : kind = 4
  · subst hk
    rcases List.eq_nil_or_concat ps with rfl | ⟨qs, q, h⟩
    · refine fn_ok (md := mdo) (ms := [true, false]) k (by simp) ?_
      simp [c_impl_Book_do, doRes]
      refine call_on hneeds ?_
      simp [htl, hto]
    · rw [List.concat_eq_append] at h
      subst h
      have e : doRes true 4 ls (qs ++ [q]) n (b && fb) = (true, q, qs) := by simp [doRes]
      rw [e]
      exact s_impl_do_back k W T cs ds ls q qs spot way (by simp at hp; omega) hneeds hclone
  · have h := s_impl_do_lay k W T cs ds ls n ps kind spot way b fb hp hk hls hn hneeds (hby rfl hk) (hfair rfl hk) hclone
    cases hb : (b && fb) with
    | false =>
      rw [hb] at h
      have e : doRes true kind ls ps n false = (false, ls, ps) := by simp [doRes, hk]
      rw [e]; simpa using h
    | true =>
      rw [hb] at h
      have e : doRes true kind ls ps n true = (true, n, bkPast ls ps) := by simp [doRes, hk]
      rw [e]; simpa using h

theorem s_impl_BookDo (k : cFn Tryz.prog n_impl_BookDo 18 [.c 4 true 6, .t 5] c_impl_BookDo) (W T : Int) (cs : List Bool) (ds ls : List Int) (ps : List (List Int)) (kind spot way : Int) (ok r : Bool) (l2 : List Int) (p2 : List (List Int))
    (hv : SoundAt Tryz.prog 19 [bkA W T cs ds ls ps] (.v (.bool ok)) [.bot])
    (hcopy : ok = true → SoundAt Tryz.prog 64 [bkA W T cs ds ls ps] (bkO W T cs ds ls ps) [.bot])
    (hdo : ok = true → SoundAt Tryz.prog n_impl_Book_do [boxO W T cs ds ls ps, deedV kind spot way] (.v (.bool r)) [boxO W T cs ds l2 p2, .bot]) :
    SoundAt Tryz.prog n_impl_BookDo [bkA W T cs ds ls ps, deedV kind spot way] (.tup [if ok then bkO W T cs ds l2 p2 else bkO 0 0 [] [] [] [], .v (.bool (ok && r))]) [.bot, .bot] := by
  refine fn_ok (md := mdo) (ms := [false, false]) k (by simp) ?_
  cases ok with
  | false =>
    simp [c_impl_BookDo]
    refine call_on hv ?_
    simp
  | true =>
    have hcopy := hcopy rfl
    have hdo := hdo rfl
    have htl : (ints l2).take l2.length = ints l2 := take_ints_all l2
    have hto : (oss p2).take p2.length = oss p2 := List.take_of_length_le (by simp [oss])
    simp [c_impl_BookDo]
    refine call_on hv ?_
    simp
    refine call_on hcopy ?_
    simp
    refine call_on hdo ?_
    simp [htl, hto]
end Go.Proofs.Dev

namespace Go.Proofs.Dev
set_option linter.unusedSimpArgs false
set_option maxRecDepth 100000

/-- What is laid after a deed: laid, lifted, flipped, forced. -/
def byRes (kind : Int) (n0 n1 n2 n3 : List Int) (b0 b1 b2 b3 : Bool) : List Int × Bool :=
  if kind = 0 then (n0, b0) else if kind = 1 then (n1, b1) else if kind = 2 then (n2, b2) else if kind = 3 then (n3, b3) else ([], false)

set_option maxHeartbeats 8000000 in
theorem s_impl_laidBy (k : cFn Tryz.prog n_impl_Book_laidBy 72 [.t 4, .t 5] c_impl_Book_laidBy) (W T : Int) (cs : List Bool) (ds ls n0 n1 n2 n3 : List Int) (ps : List (List Int)) (kind spot way : Int) (b0 b1 b2 e3 : Bool)
    (h0 : SoundAt Tryz.prog 160 [.agg [.v (.int .i64 W), .v (.int .i64 T), .sl 1 1 (bools cs)], .sl 1 1 (ints ls), .v (.int .i64 spot), .v (.int .i64 way)] (.tup [.os 1 (ints n0), .v (.bool b0)]) [.bot, .bot, .bot, .bot])
    (h1 : SoundAt Tryz.prog 161 [.agg [.v (.int .i64 W), .v (.int .i64 T), .sl 1 1 (bools cs)], .sl 1 1 (ints ls), .v (.int .i64 spot)] (.tup [.os 1 (ints n1), .v (.bool b1)]) [.bot, .bot, .bot])
    (h2 : SoundAt Tryz.prog 162 [.agg [.v (.int .i64 W), .v (.int .i64 T), .sl 1 1 (bools cs)], .sl 1 1 (ints ls), .v (.int .i64 spot)] (.tup [.os 1 (ints n2), .v (.bool b2)]) [.bot, .bot, .bot])
    (h3 : SoundAt Tryz.prog 163 [.agg [.v (.int .i64 W), .v (.int .i64 T), .sl 1 1 (bools cs)], .sl 1 1 (ints ds), .sl 1 1 (ints ls)] (.os 1 (ints n3)) [.bot, .bot, .bot])
    (h4 : SoundAt Tryz.prog 164 [.sl 1 1 (ints n3), .sl 1 1 (ints ls)] (.v (.bool e3)) [.bot, .bot]) :
    SoundAt Tryz.prog n_impl_Book_laidBy [.vp 1 [.v (.int .i64 W), .v (.int .i64 T), .sl 1 1 (bools cs), .sl 1 1 (ints ds), .sl 1 1 (ints ls), .sl 1 1 (sls 1 ps)] 0, deedV kind spot way]
      (.tup [.os 1 (ints (byRes kind n0 n1 n2 n3 b0 b1 b2 (!e3)).1), .v (.bool (byRes kind n0 n1 n2 n3 b0 b1 b2 (!e3)).2)]) [.bot, .bot] := by
  have t0 : (ints n0).take n0.length = ints n0 := take_ints_all n0
  have t1 : (ints n1).take n1.length = ints n1 := take_ints_all n1
  have t2 : (ints n2).take n2.length = ints n2 := take_ints_all n2
  have t3 : (ints n3).take n3.length = ints n3 := take_ints_all n3
  refine fn_ok (md := mdo) (ms := [false, false]) k (by simp) ?_
  by_cases hk0 : kind = 0
  · simp [c_impl_Book_laidBy, hk0, byRes]
    (repeat' first | omega | apply And.intro) <;>
    · refine call_on h0 ?_
      simp [t0]
  by_cases hk1 : kind = 1
  · subst hk1
    simp [c_impl_Book_laidBy, byRes]
    (repeat' first | omega | apply And.intro) <;>
    · refine call_on h1 ?_
      simp [t1]
  by_cases hk2 : kind = 2
  · subst hk2
    simp [c_impl_Book_laidBy, byRes]
    (repeat' first | omega | apply And.intro) <;>
    · refine call_on h2 ?_
      simp [t2]
  by_cases hk3 : kind = 3
  · subst hk3
    simp [c_impl_Book_laidBy, byRes]
    (repeat' first | omega | apply And.intro) <;>
    · refine call_on h3 ?_
      simp
      (repeat' first | omega | apply And.intro) <;>
      · refine call_on h4 ?_
        simp [t3]
  · simp [c_impl_Book_laidBy, hk0, hk1, hk2, hk3, byRes]
end Go.Proofs.Dev

namespace Go.Proofs.Dev

-- 3 parameters, results [.t 6], 82 slots, modes [false, false, false]
@[simp] abbrev n_spec_MakePuzzle : Nat := 114
def c_spec_MakePuzzle_L0 : ACode := .seq (.seq (.reg [.m 23 8, .m 24 1, .n 25 24, .o 26 (.bin .lss 0) [.t 23, .t 25]]) <| .cond (.t 26) ( .skip) ( .exit 0)) <|
 .seq (.block 1 ( .reg [.m 29 7, .o 30 (.bsl 1) [.k (-1)], .o 31 (.app 1 8 true) [.t 29, .t 30], .m 7 31])) <| .reg [.m 27 8, .o 28 (.bin .add 0) [.t 27, .k 1],
 .m 8 28]

def c_spec_MakePuzzle_L1 : ACode := .seq (.seq (.reg [.m 52 10, .m 53 11, .o 54 (.bin .sub 0) [.k 6, .t 53], .o 55 (.bin .gtr 0) [.t 52, .t 54]]) <|
 .cond (.t 55) ( .skip) ( .exit 4)) <| .block 5 ( .seq (.reg [.m 56 10, .m 57 11, .o 58 (.bin .sub 0) [.k 6, .t 57], .o 59 (.bin .add 0) [.t 58, .k 1],
 .o 60 (.bin .sub 0) [.t 56, .t 59], .m 10 60]) <| .reg [.m 61 11, .o 62 (.bin .add 0) [.t 61, .k 1], .m 11 62])

abbrev c_spec_MakePuzzle_D_p0 : Plan := .al (.o 74 (.call 132 []) [.t 68, .t 69, .t 73]) ( .take (.o 78 (.iadr 1) [.t 67, .t 74]) <| .al (.s (.store 1) [.t 78, .t 77]) ( .done))
def c_spec_MakePuzzle_D : ACode := .draw ( .take (.m 67 7) <| .take (.m 69 9) <| .take (.m 70 1) <| .take (.m 71 9) <| .take (.o 72 (.iadr 1) [.t 70, .t 71]) <|
 .take (.m 75 11) <| .take (.m 76 10) <| .take (.o 77 (.bin .add 0) [.t 75, .t 76]) <| .alt (.la 68 3 3) ( .al (.l 73 72) c_spec_MakePuzzle_D_p0) <|
 .al (.l 73 72) ( .al (.la 68 3 3) c_spec_MakePuzzle_D_p0))

def c_spec_MakePuzzle_L2 : ACode := .seq (.seq (.reg [.m 32 9, .m 33 1, .n 34 33, .o 35 (.bin .lss 0) [.t 32, .t 34]]) <| .cond (.t 35) ( .skip) ( .exit 2)) <|
 .seq (.block 3 ( .seq (.reg [.m 38 1, .m 39 9, .o 40 (.iadr 1) [.t 38, .t 39], .l 41 40, .o 42 (.bin .eql 0) [.t 41, .k 1], .m 43 42, .mg 44 1 43 false,
 .mg 45 9 43 false, .g 46 (.iadr 1) [.t 44, .t 45] 43 false, .lg 47 46 43 false, .g 48 (.bin .eql 0) [.t 47, .k 2] 43 false, .o 49 .pick [.t 43, .kb true,
 .t 48]]) <| .cond (.t 49) ( .seq (.reg [.m 50 2, .o 51 (.bin .rem 0) [.t 50, .k 28], .m 10 51]) <| .seq (.reg [.o 11 .mv [.k 0]]) <| .seq (.block 4 ( .loop [(1,
 1), (7, 1)] [1, 2, 3, 7, 9, 10, 11] c_spec_MakePuzzle_L1)) <| .seq (.reg [.m 63 7, .m 64 9, .m 65 11, .o 66 (.iadr 1) [.t 63, .t 64], .s (.store 1) [.t 66,
 .t 65]]) <| .seq c_spec_MakePuzzle_D <| .reg [.m 79 2, .o 80 (.bin .add 0) [.t 79, .k 1], .m 2 80]) ( .skip))) <| .reg [.m 36 9, .o 37 (.bin .add 0) [.t 36,
 .k 1], .m 9 37]

def c_spec_MakePuzzle : ACode := .seq (.reg [.o 3 .box [.t 0], .o 6 .mv [.c (.os 1 [])]]) <| .seq (.seq (.reg [.la 12 3 3, .m 13 1, .o 14 (.call 142 []) [.t 12,
 .t 13], .o 15 (.un .not) [.t 14], .m 16 15, .mg 17 2 16 false, .g 18 (.call 62 []) [.t 17, .k 0, .k 27] 16 false, .g 19 (.un .not) [.t 18] 16 false,
 .o 20 .pick [.t 16, .kb true, .t 19]]) <| .cond (.t 20) ( .seq (.reg [.o 21 (.bsl 1) [], .m 6 21]) <| .ret) ( .skip)) <| .seq (.reg [.o 22 (.bsl 1) [],
 .m 7 22]) <| .seq (.seq (.reg [.o 8 .mv [.k 0]]) <| .block 0 ( .loop [(1, 1), (7, 1)] [1, 2, 3, 7, 8] c_spec_MakePuzzle_L0)) <|
 .seq (.seq (.reg [.o 9 .mv [.k 0]]) <| .block 2 ( .loop [(1, 1), (7, 1)] [1, 2, 3, 7, 9] c_spec_MakePuzzle_L2)) <| .seq (.reg [.m 81 7, .m 6 81]) <| .ret

theorem k_spec_MakePuzzle : cFn Tryz.prog n_spec_MakePuzzle 82 [.t 6] c_spec_MakePuzzle := ⟨Tryz.f114, _, Tryz.func114, rfl, by kernel_rfl, by kernel_rfl, by kernel_rfl, by kernel_rfl⟩

-- 2 parameters, results [.t 4], 12 slots, modes [false, false]
@[simp] abbrev n_impl_LaidOk : Nat := 75

def c_impl_LaidOk : ACode := .seq (.reg [.o 2 .box [.t 0], .o 4 .mv [.kb false]]) <| .seq (.reg [.la 5 3 2, .o 6 (.call 69 []) [.t 5], .m 7 6,
 .g 8 (.load true 3) [.t 2] 7 true, .mg 9 1 7 true, .g 10 (.call 106 []) [.t 8, .t 9] 7 true, .o 11 .pick [.t 7, .t 10, .kb false], .m 4 11]) <| .ret

theorem k_impl_LaidOk : cFn Tryz.prog n_impl_LaidOk 12 [.t 4] c_impl_LaidOk := ⟨Tryz.f75, _, Tryz.func75, rfl, by kernel_rfl, by kernel_rfl, by kernel_rfl, by kernel_rfl⟩

end Go.Proofs.Dev

namespace Go.Proofs.Dev

-- 2 parameters, results [.t 4], 20 slots, modes [false, false]
@[simp] abbrev n_laws_eqDeed : Nat := 101

def c_laws_eqDeed : ACode := .seq (.reg [.o 2 .box [.t 0], .o 3 .box [.t 1], .o 4 .mv [.kb false]]) <| .seq (.seq (.reg [.f 5 0 2, .l 6 5, .f 7 0 3, .l 8 7,
 .o 9 (.bin .neq 0) [.t 6, .t 8]]) <| .cond (.t 9) ( .seq (.reg [.o 4 .mv [.kb false]]) <| .ret) ( .skip)) <| .seq (.seq (.reg [.f 10 1 2, .l 11 10, .f 12 1 3,
 .l 13 12, .o 14 (.bin .neq 0) [.t 11, .t 13]]) <| .cond (.t 14) ( .seq (.reg [.o 4 .mv [.kb false]]) <| .ret) ( .skip)) <| .seq (.seq (.reg [.f 15 2 2,
 .l 16 15, .f 17 2 3, .l 18 17, .o 19 (.bin .neq 0) [.t 16, .t 18]]) <| .cond (.t 19) ( .seq (.reg [.o 4 .mv [.kb false]]) <| .ret) ( .skip)) <|
 .seq (.reg [.o 4 .mv [.kb true]]) <| .ret

theorem k_laws_eqDeed : cFn Tryz.prog n_laws_eqDeed 20 [.t 4] c_laws_eqDeed := ⟨Tryz.f101, _, Tryz.func101, rfl, by kernel_rfl, by kernel_rfl, by kernel_rfl, by kernel_rfl⟩

-- 2 parameters, results [.t 4], 27 slots, modes [false, false]
@[simp] abbrev n_laws_eqDeedS : Nat := 41
abbrev c_laws_eqDeedS_L0_p0 : Plan := .al (.o 25 (.call 101 []) [.t 20, .t 24]) ( .take (.o 26 (.un .not) [.t 25]) <| .done)
def c_laws_eqDeedS_L0 : ACode := .seq (.seq (.reg [.m 11 5, .m 12 0, .n 13 12, .o 14 (.bin .lss 0) [.t 11, .t 13]]) <| .cond (.t 14) ( .skip) ( .exit 0)) <|
 .seq (.block 1 ( .seq (.draw ( .take (.m 17 0) <| .take (.m 18 5) <| .take (.o 19 (.iadr 3) [.t 17, .t 18]) <| .take (.m 21 1) <| .take (.m 22 5) <|
 .take (.o 23 (.iadr 3) [.t 21, .t 22]) <| .alt (.la 20 3 19) ( .al (.la 24 3 23) c_laws_eqDeedS_L0_p0) <| .al (.la 24 3 23) ( .al (.la 20 3 19) c_laws_eqDeedS_L0_p0))) <| .cond (.t 26) ( .seq (.reg [.o 4 .mv [.kb false]]) <| .ret) ( .skip))) <| .reg [.m 15 5,
 .o 16 (.bin .add 0) [.t 15, .k 1], .m 5 16]

def c_laws_eqDeedS : ACode := .seq (.reg [.o 4 .mv [.kb false]]) <| .seq (.seq (.reg [.m 6 0, .n 7 6, .m 8 1, .n 9 8, .o 10 (.bin .neq 0) [.t 7, .t 9]]) <|
 .cond (.t 10) ( .seq (.reg [.o 4 .mv [.kb false]]) <| .ret) ( .skip)) <| .seq (.seq (.reg [.o 5 .mv [.k 0]]) <| .block 0 ( .loop [(0, 3), (1, 3)] [0, 1,
 5] c_laws_eqDeedS_L0)) <| .seq (.reg [.o 4 .mv [.kb true]]) <| .ret

theorem k_laws_eqDeedS : cFn Tryz.prog n_laws_eqDeedS 27 [.t 4] c_laws_eqDeedS := ⟨Tryz.f41, _, Tryz.func41, rfl, by kernel_rfl, by kernel_rfl, by kernel_rfl, by kernel_rfl⟩

-- 2 parameters, results [.t 4], 34 slots, modes [true, false]
@[simp] abbrev n_laws_markDeedS : Nat := 42
def c_laws_markDeedS_L0 : ACode := .seq (.seq (.reg [.m 6 5, .m 7 0, .n 8 7, .o 9 (.bin .lss 0) [.t 6, .t 8]]) <| .cond (.t 9) ( .skip) ( .exit 0)) <|
 .seq (.block 1 ( .seq (.reg [.m 12 0, .m 13 5, .m 14 1, .o 15 (.iadr 3) [.t 12, .t 13], .f 16 0 15, .s (.store 1) [.t 16, .t 14]]) <| .seq (.reg [.m 17 1,
 .o 18 (.bin .add 0) [.t 17, .k 1], .m 1 18]) <| .seq (.reg [.m 19 0, .m 20 5, .m 21 1, .o 22 (.iadr 3) [.t 19, .t 20], .f 23 1 22, .s (.store 1) [.t 23,
 .t 21]]) <| .seq (.reg [.m 24 1, .o 25 (.bin .add 0) [.t 24, .k 1], .m 1 25]) <| .seq (.reg [.m 26 0, .m 27 5, .m 28 1, .o 29 (.iadr 3) [.t 26, .t 27],
 .f 30 2 29, .s (.store 1) [.t 30, .t 28]]) <| .reg [.m 31 1, .o 32 (.bin .add 0) [.t 31, .k 1], .m 1 32])) <| .reg [.m 10 5, .o 11 (.bin .add 0) [.t 10, .k 1],
 .m 5 11]

def c_laws_markDeedS : ACode := .seq (.reg [.o 4 .mv [.k 0]]) <| .seq (.seq (.reg [.o 5 .mv [.k 0]]) <| .block 0 ( .loop [(0, 3)] [0, 1, 5,
 34] c_laws_markDeedS_L0)) <| .seq (.reg [.m 33 1, .m 4 33]) <| .ret

theorem k_laws_markDeedS : cFn Tryz.prog n_laws_markDeedS 34 [.t 4] c_laws_markDeedS := ⟨Tryz.f42, _, Tryz.func42, rfl, by kernel_rfl, by kernel_rfl, by kernel_rfl, by kernel_rfl⟩

-- 1 parameters, results [.t 2], 9 slots, modes [true]
@[simp] abbrev n_slices_Clip_impl_Deed_impl_Deed : Nat := 153

end Go.Proofs.Dev

namespace Go.Proofs.Dev
set_option linter.unusedSimpArgs false
set_option maxRecDepth 100000

@[simp] def md3 (f : Nat) : List Bool := if f = n_laws_markDeedS then [true, false] else if f = n_slices_Clip_impl_Deed_impl_Deed then [true] else md0 f

def deedA (d : Int × Int × Int) : AV := .agg [.v (.int .i64 d.1), .v (.int .i64 d.2.1), .v (.int .i64 d.2.2)]
def dsA (xs : List (Int × Int × Int)) : List AV := xs.map deedA
@[simp] theorem dsA_length (xs : List (Int × Int × Int)) : (dsA xs).length = xs.length := by simp [dsA]
@[simp] theorem dsA_nil : dsA [] = [] := rfl
theorem dsA_get {xs : List (Int × Int × Int)} {i : Nat} (h : i < xs.length) : (dsA xs)[i]? = some (deedA xs[i]) := by simp [dsA, h]
@[simp] theorem dsA_getE {xs : List (Int × Int × Int)} {i : Nat} (h : i < (dsA xs).length) : (dsA xs)[i] = deedA (xs[i]'(by simpa using h)) := by simp [dsA]

def deedC (d : Int × Int × Int) : List AV := [.v (.int .i64 d.1), .v (.int .i64 d.2.1), .v (.int .i64 d.2.2)]
theorem aiadr_ds {c : Nat} {k : IntKind} {xs : List (Int × Int × Int)} {i : Nat} (h : i < xs.length) : aiadr 3 (.sl c 3 (dsA xs)) (.v (.int k (i : Int))) = some (.vp c (deedC xs[i]) 0) := by
  rw [aiadr_sl (dsA_get h)]; rfl

theorem s_laws_eqDeed (a b : Int × Int × Int) : SoundAt Tryz.prog n_laws_eqDeed [deedA a, deedA b] (.v (.bool (decide (a = b)))) [.bot, .bot] := by
  obtain ⟨a1, a2, a3⟩ := a
  obtain ⟨b1, b2, b3⟩ := b
  refine fn_ok (md := md3) (ms := [false, false]) k_laws_eqDeed (by simp [deedA]) ?_
  simp [c_laws_eqDeed, deedA]
  by_cases h1 : a1 = b1 <;> by_cases h2 : a2 = b2 <;> by_cases h3 : a3 = b3 <;> simp [h1, h2, h3]

theorem s_laws_eqDeedS (xs ys : List (Int × Int × Int)) (ha : xs.length < 2 ^ 40) :
    SoundAt Tryz.prog n_laws_eqDeedS [.sl 1 3 (dsA xs), .sl 1 3 (dsA ys)] (.v (.bool (decide (xs = ys)))) [.bot, .bot] := by
  refine fn_ok (md := md3) (ms := [false, false]) k_laws_eqDeedS (by simp) ?_
  simp [c_laws_eqDeedS]
  refine ⟨fun h => ?_, fun hl => ?_⟩
  · intro e; subst e; exact h rfl
  refine loop_by (fun m E H => ∃ i : Nat, m = xs.length - i ∧ i ≤ xs.length ∧ xs.take i = ys.take i ∧ H = [] ∧ E = [(0, .sl 1 3 (dsA xs)), (1, .sl 1 3 (dsA ys)), (5, .v (.int .i64 i))]) xs.length ⟨0, by simp⟩ ?_
  rintro J hJ m E H ⟨i, rfl, hi, he, rfl, rfl⟩
  simp [c_laws_eqDeedS_L0]
  refine ⟨fun h => ?_, fun h => ?_⟩
  · have h2 : i < ys.length := by omega
    simp [h, h2, aiadr_ds, deedC]
    have key : xs[i] = ys[i] → xs.take (i + 1) = ys.take (i + 1) := by
      intro e
      rw [List.take_succ_eq_append_getElem h, List.take_succ_eq_append_getElem h2, he, e]
    have key2 : ¬ (xs[i] = ys[i]) → xs ≠ ys := fun e e2 => e (by subst e2; rfl)
    refine ⟨?_, ?_⟩ <;>
    · refine call_on (s_laws_eqDeed xs[i] ys[i]) ?_
      by_cases e : xs[i] = ys[i]
      · simp [e, deedA]
        exact ⟨by omega, _, by omega, hJ _ _ _ ⟨i + 1, rfl, h, key e, rfl, rfl⟩⟩
      · simp [e, deedA]
        exact key2 e
  · have h1 : i = xs.length := by omega
    subst h1
    rw [List.take_length] at he
    rw [he]
    exact List.take_of_length_le (by omega)

def marks3 (n : Nat) (k : Int) : List (Int × Int × Int) := (List.range n).map fun j : Nat => (k + 3 * j, k + 3 * j + 1, k + 3 * j + 2)
@[simp] theorem marks3_length (n : Nat) (k : Int) : (marks3 n k).length = n := by simp [marks3]
theorem dsA_set (xs : List (Int × Int × Int)) (i : Nat) (d : Int × Int × Int) : (dsA xs).set i (deedA d) = dsA (xs.set i d) := by simp [dsA, List.map_set]
theorem dsA_set' (xs : List (Int × Int × Int)) (i : Nat) (a b c : Int) : (dsA xs).set i (.agg [.v (.int .i64 a), .v (.int .i64 b), .v (.int .i64 c)]) = dsA (xs.set i (a, b, c)) := dsA_set xs i (a, b, c)
theorem dsA_get' {xs : List (Int × Int × Int)} {i : Nat} (h : i < xs.length) : (dsA xs)[i]? = some (.agg [.v (.int .i64 xs[i].1), .v (.int .i64 xs[i].2.1), .v (.int .i64 xs[i].2.2)]) := dsA_get h
theorem marks3_step {k : Int} {bs : List (Int × Int × Int)} {i : Nat} (h : i < bs.length) : (marks3 i k ++ bs.drop i).set i (k + 3 * (i : Nat), k + 3 * (i : Nat) + 1, k + 3 * (i : Nat) + 2) = marks3 (i + 1) k ++ bs.drop (i + 1) := by
  rw [set_mid _ _ _ _ (by simp) h]
  simp [marks3, List.range_succ]

theorem s_laws_markDeedS (bs : List (Int × Int × Int)) (k : Int) (h0 : 0 ≤ k) (h1 : k < 2 ^ 40) (hb : bs.length < 2 ^ 40) :
    SoundAt Tryz.prog n_laws_markDeedS [.os 3 (dsA bs), .v (.int .i64 k)] (.v (.int .i64 (k + 3 * bs.length))) [.os 3 (dsA (marks3 bs.length k)), .bot] := by
  refine fn_ok (md := md3) (ms := [true, false]) k_laws_markDeedS (by simp) ?_
  simp [c_laws_markDeedS]
  refine loop_by (fun m E H => ∃ i : Nat, m = bs.length - i ∧ i ≤ bs.length ∧ H = [some (.arr 3 (dsA (marks3 i k ++ bs.drop i)))] ∧ E = [(0, .ls 3 0 0 bs.length), (1, .v (.int .i64 (k + 3 * i))), (5, .v (.int .i64 i)), (34, .ls 3 0 0 bs.length)]) bs.length ⟨0, by simp [marks3]⟩ ?_
  rintro J hJ m E H ⟨i, rfl, hi, rfl, rfl⟩
  have hlen : (marks3 i k ++ bs.drop i).length = bs.length := by simp; omega
  by_cases h : i < bs.length
  · have st := marks3_step (k := k) h
    generalize marks3 i k ++ bs.drop i = ys at *
    simp [c_laws_markDeedS_L0, h, hlen, dsA_set', dsA_get', deedA]
    refine ⟨by omega, by omega, by omega, by omega, _, by omega, hJ _ _ _ ⟨i + 1, rfl, h, ?_, ?_⟩⟩
    · rw [show k + 3 * (i : Int) + 1 + 1 = k + 3 * (i : Int) + 2 by omega, st]
    · simp; omega
  · have : i = bs.length := by omega
    subst this
    simp [c_laws_markDeedS_L0]

end Go.Proofs.Dev
