/- Contracts of the functions of the program over slots and rows, each proved against the program itself; no condition beyond those that each theorem names. -/
import Derived.Test.YtiolbpmhnlmmdaaDoorAQ
import Derived.Test.YtiolbpmhnlmmdaaDoorAM
import Derived.Test.YtiolbpmhnlmmdaaDoorProg
import Derived.Test.YtiolbpmhnlmmdaaDoorAI
import Derived.Test.YtiolbpmhnlmmdaaDoorAJ

set_option linter.unusedSimpArgs false
set_option linter.unusedVariables false

namespace Go.Proofs.Dev
set_option linter.unusedSimpArgs false
set_option maxRecDepth 100000

@[simp] theorem take_sls_all (c : Nat) (ps : List (List Int)) : (sls c ps).take ps.length = sls c ps := List.take_of_length_le (by simp)

/-- What the marks of lists of lists are. -/
def marksSS : Int → List (List Int) → List (List Int)
  | _, [] => []
  | k, p :: ps => marksI p.length k :: marksSS (k + p.length) ps
@[simp] theorem marksSS_length : ∀ (k : Int) (a : List (List Int)), (marksSS k a).length = a.length
  | k, [] => by simp [marksSS]
  | k, p :: a => by simp [marksSS, marksSS_length]
@[simp] theorem take_marksSS (k : Int) (ps : List (List Int)) : (oss (marksSS k ps)).take ps.length = oss (marksSS k ps) := List.take_of_length_le (by simp)
end Go.Proofs.Dev

namespace Go.Proofs.Dev

end Go.Proofs.Dev

namespace Go.Proofs.Dev

-- printed by program: spec_BookNew
end Go.Proofs.Dev

namespace Go.Proofs.Dev
set_option linter.unusedSimpArgs false
set_option maxRecDepth 100000

end Go.Proofs.Dev

namespace Go.Proofs.Dev
set_option linter.unusedSimpArgs false
set_option maxRecDepth 100000

/-- A book whose lists are marked. -/
def mkC (k : Int) (cs : List Bool) : List Bool := marksB cs.length k
def mkD (k : Int) (cs : List Bool) (ds : List Int) : List Int := marksI ds.length (k + cs.length)
def mkL (k : Int) (cs : List Bool) (ds ls : List Int) : List Int := marksI ls.length (k + cs.length + ds.length)
def mkP (k : Int) (cs : List Bool) (ds ls : List Int) (ps : List (List Int)) : List (List Int) := marksSS (k + cs.length + ds.length + ls.length) ps
@[simp] theorem mkC_length (k : Int) (cs : List Bool) : (mkC k cs).length = cs.length := by simp [mkC]
@[simp] theorem mkD_length (k : Int) (cs : List Bool) (ds : List Int) : (mkD k cs ds).length = ds.length := by simp [mkD]
@[simp] theorem mkL_length (k : Int) (cs : List Bool) (ds ls : List Int) : (mkL k cs ds ls).length = ls.length := by simp [mkL]
@[simp] theorem mkP_length (k : Int) (cs : List Bool) (ds ls : List Int) (ps : List (List Int)) : (mkP k cs ds ls ps).length = ps.length := by simp [mkP]
@[simp] theorem take_mkC (k : Int) (cs : List Bool) : (bools (mkC k cs)).take cs.length = bools (mkC k cs) := List.take_of_length_le (by simp)
@[simp] theorem take_mkD (k : Int) (cs : List Bool) (ds : List Int) : (ints (mkD k cs ds)).take ds.length = ints (mkD k cs ds) := List.take_of_length_le (by simp)
@[simp] theorem take_mkL (k : Int) (cs : List Bool) (ds ls : List Int) : (ints (mkL k cs ds ls)).take ls.length = ints (mkL k cs ds ls) := List.take_of_length_le (by simp)
@[simp] theorem take_mkP (k : Int) (cs : List Bool) (ds ls : List Int) (ps : List (List Int)) : (oss (mkP k cs ds ls ps)).take ps.length = oss (mkP k cs ds ls ps) := List.take_of_length_le (by simp)

@[simp] theorem mkP_nil (k : Int) (cs : List Bool) (ds ls : List Int) : mkP k cs ds ls [] = [] := (rfl)

end Go.Proofs.Dev

namespace Go.Proofs.Dev
open Go.RowKit
set_option linter.unusedSimpArgs false
set_option maxRecDepth 100000

end Go.Proofs.Dev

namespace Go.Proofs.Dev
open Go.RowKit
set_option linter.unusedSimpArgs false
set_option maxRecDepth 100000

/-- Who takes ownership: of the bytes that draws are made of, too. -/
@[simp] def md6 (f : Nat) : List Bool := if f = 33 ∨ f = 40 then [true] else md5 f

theorem rpA_yes {s : List UInt8} (h : riB s = true) : rpA s = .tup [.agg [.v (.int .i64 (wT s)), .v (.int .i64 (tT s)), .os 1 (bools (csT s))], .os 1 (ints (dsI s)), .v (.bool true)] := if_pos h
theorem rpA_no {s : List UInt8} (h : riB s = false) : rpA s = .tup [.agg [.v (.int .i64 0), .v (.int .i64 0), .os 1 []], .os 1 [], .v (.bool false)] := if_neg (by rw [h]; simp)

set_option maxHeartbeats 1000000 in
theorem l_FnPuzzleText (bs : List Int) (hB : Byt bs) : SoundAt Tryd.prog n_laws_FnPuzzleText [.sl 0 1 (u8s bs)] (.v (.bool true)) [.bot] := by
  refine fn_ok (md := md6) (ms := [false]) k_laws_FnPuzzleText (by simp) ?_
  simp [c_laws_FnPuzzleText]
  refine fun hsz => ?_
  have hb : bs.length ≤ 2 ^ 60 := by omega
  refine call_onK (s_spec_DrawPuzzleText bs hb hB) [] (by simp) (by simp) (by simp) ?_
  rintro _ _ ⟨W, T, cs, ds, rfl, hcs, hds, hW, hT, rfl⟩
  have one := s_impl_PuzzleText W T cs ds (by omega) (by omega)
  have two := s_spec_PuzzleText W T cs ds (by omega) (by omega) (by omega)
  have hl : (ptext W T cs ds).length ≤ 300 := by
    unfold ptext
    split
    · have := join_len cs ds T (W := W)
      have hp : T * (W + 1) ≤ 24 * 7 := Nat.mul_le_mul (by omega) (by omega)
      simp only [Int.toNat_natCast]
      omega
    · simp
  by_cases hv : (regB W T cs && digsB cs ds) = true
  · obtain ⟨h0, h1, h2, h3, h4, h5⟩ := ptext_read hv
    have rd := s_impl_ReadPuzzle (ptext W T cs ds) (by omega)
    rw [rpA_yes h1, h2, h3, h4, h5] at rd
    have sr := s_laws_sameRegion W T cs W T cs (by omega)
    have si := s_laws_sameInts ds ds (by omega)
    rw [sameR_self] at sr
    simp at si
    generalize ptext W T cs ds = s at *
    simp [regA]
    refine call_on one ?_
    simp
    refine call_on two ?_
    simp [h0]
    refine call_on rd ?_
    simp
    refine call_on sr ?_
    simp
    refine call_on si ?_
    simp
  · have hv' : (regB W T cs && digsB cs ds) = false := by simpa using hv
    have hp : ptext W T cs ds = [] := if_neg hv
    rw [hp] at one two
    have pv := s_impl_PuzzleValid W T cs ds (by omega) (by omega)
    rw [hv'] at pv
    simp [regA]
    refine call_on one ?_
    simp
    refine call_on two ?_
    simp
    refine call_on pv ?_
    simp
    refine call_on s_laws_alive ?_
    simp

set_option maxHeartbeats 1000000 in
theorem l_FnReadPuzzle (bs : List Int) (hB : Byt bs) : SoundAt Tryd.prog n_laws_FnReadPuzzle [.sl 0 1 (u8s bs)] (.v (.bool true)) [.bot] := by
  refine fn_ok (md := md6) (ms := [false]) k_laws_FnReadPuzzle (by simp) ?_
  simp [c_laws_FnReadPuzzle]
  refine fun hsz => ?_
  have hb : bs.length ≤ 2 ^ 60 := by omega
  refine call_onK (s_spec_DrawReadPuzzle bs hb hB) [] (by simp) (by simp) (by simp) ?_
  rintro _ _ ⟨s, rfl, hs, rfl⟩
  have im := s_impl_ReadPuzzle s (by omega)
  have sp := s_spec_ReadPuzzle s (by omega)
  have mo := s_impl_ReadPuzzle (s ++ [47]) (by simp; omega)
  rw [rpA_no (read_more s)] at mo
  cases h : riB s with
  | true =>
    have pt := read_ptext h
    have hcl : (csT s).length ≤ s.length := by have := flat_le 47 s; simp only [csT, List.length_map]; exact this
    have hdl : (dsI s).length ≤ s.length := by have := flat_le 47 s; simp only [dsI, List.length_map]; exact this
    have tx := s_impl_PuzzleText (wT s) (tT s) (csT s) (dsI s) (by omega) (by omega)
    rw [pt] at tx
    have sr := s_laws_sameRegion (wT s) (tT s) (csT s) (wT s) (tT s) (csT s) (by omega)
    have si := s_laws_sameInts (dsI s) (dsI s) (by omega)
    rw [sameR_self] at sr
    simp at si
    rw [rpA_yes h] at im sp
    generalize csT s = cs at *
    generalize dsI s = ds at *
    simp
    refine call_on im ?_
    simp
    refine call_on sp ?_
    simp
    refine call_on sr ?_
    simp
    refine call_on si ?_
    simp
    refine ⟨by omega, ?_⟩
    refine call_on mo ?_
    simp
    refine call_on tx ?_
    simp
  | false =>
    have sr := s_laws_sameRegion 0 0 [] 0 0 [] (by simp)
    have si := s_laws_sameInts [] [] (by simp)
    rw [sameR_self] at sr
    simp at si sr
    rw [rpA_no h] at im sp
    simp
    refine call_on im ?_
    simp
    refine call_on sp ?_
    simp
    refine call_on sr ?_
    simp
    refine call_on si ?_
    simp
    refine call_on s_laws_alive ?_
    simp

end Go.Proofs.Dev
