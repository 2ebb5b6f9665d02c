/- Contracts of the functions of the program over slots and rows, each proved against the program itself; no condition beyond those that each theorem names. -/
import Derived.Test.YtlcoaglnegibkaaRows
import Derived.ProofKit
import Derived.Test.YtlcoaglnegibkaaJ

set_option linter.unusedSimpArgs false
set_option linter.unusedVariables false

namespace Go.Proofs.Ytlcoaglnegibkaa

def headCodes : List Nat := [104, 97, 114, 110, 101, 115, 115, 32, 51, 98, 100, 55, 49, 51, 101, 50, 56, 98, 99, 53, 98, 51, 102, 48, 50, 101, 50, 53, 49, 98, 101, 101, 53, 50, 49, 100, 102, 48, 99, 101, 52, 53, 98, 99, 50, 102, 100, 53, 99, 97, 98, 53, 101, 101, 101, 52, 102, 101, 56, 54, 53, 100, 97, 55, 57, 48, 48, 97, 48, 98, 50, 98, 32, 99, 117, 116, 32, 97, 116, 32, 108, 111, 111, 112, 46, 101, 120, 97, 109, 112, 108, 101, 47, 100, 111, 109, 105, 110, 111, 116, 105, 108, 105, 110, 103, 115, 47, 108, 97, 119, 115, 46, 70, 110, 80, 117, 122, 122, 108, 101, 86, 97, 108, 105, 100, 32, 108, 111, 111, 112, 46, 101, 120, 97, 109, 112, 108, 101, 47, 100, 111, 109, 105, 110, 111, 116, 105, 108, 105, 110, 103, 115, 47, 108, 97, 119, 115, 46, 70, 110, 80, 97, 105, 114, 115, 79, 102, 32, 108, 111, 111, 112, 46, 101, 120, 97, 109, 112, 108, 101, 47, 100, 111, 109, 105, 110, 111, 116, 105, 108, 105, 110, 103, 115, 47, 108, 97, 119, 115, 46, 70, 110, 70, 97, 105, 114, 79, 107, 32, 108, 111, 111, 112, 46, 101, 120, 97, 109, 112, 108, 101, 47, 100, 111, 109, 105, 110, 111, 116, 105, 108, 105, 110, 103, 115, 47, 108, 97, 119, 115, 46, 70, 110, 83, 111, 108, 118, 101, 100, 79, 107, 32, 108, 111, 111, 112, 46, 101, 120, 97, 109, 112, 108, 101, 47, 100, 111, 109, 105, 110, 111, 116, 105, 108, 105, 110, 103, 115, 47, 108, 97, 119, 115, 46, 70, 110, 83, 111, 108, 117, 116, 105, 111, 110, 115, 65, 108, 108, 32, 108, 111, 111, 112, 46, 101, 120, 97, 109, 112, 108, 101, 47, 100, 111, 109, 105, 110, 111, 116, 105, 108, 105, 110, 103, 115, 47, 108, 97, 119, 115, 46, 70, 110, 79, 112, 116, 105, 111, 110, 115, 79, 102, 32, 108, 111, 111, 112, 46, 101, 120, 97, 109, 112, 108, 101, 47, 100, 111, 109, 105, 110, 111, 116, 105, 108, 105, 110, 103, 115, 47, 108, 97, 119, 115, 46, 70, 110, 68, 101, 97, 100, 32, 108, 111, 111, 112, 46, 101, 120, 97, 109, 112, 108, 101, 47, 100, 111, 109, 105, 110, 111, 116, 105, 108, 105, 110, 103, 115, 47, 108, 97, 119, 115, 46, 70, 110, 83, 111, 108, 118, 101, 70, 105, 114, 115, 116, 32, 108, 111, 111, 112, 46, 101, 120, 97, 109, 112, 108, 101, 47, 100, 111, 109, 105, 110, 111, 116, 105, 108, 105, 110, 103, 115, 47, 108, 97, 119, 115, 46, 70, 110, 82, 101, 108, 97, 98, 101, 108, 32, 108, 111, 111, 112, 46, 101, 120, 97, 109, 112, 108, 101, 47, 100, 111, 109, 105, 110, 111, 116, 105, 108, 105, 110, 103, 115, 47, 108, 97, 119, 115, 46, 70, 110, 77, 97, 107, 101, 80, 117, 122, 122, 108, 101, 32, 108, 111, 111, 112, 46, 101, 120, 97, 109, 112, 108, 101, 47, 100, 111, 109, 105, 110, 111, 116, 105, 108, 105, 110, 103, 115, 47, 108, 97, 119, 115, 46, 70, 110, 83, 111, 108, 117, 116, 105, 111, 110, 115, 77, 97, 110, 121]
theorem head_eq : Try.prog.initOrder = String.ofList (headCodes.map Char.ofNat) := by kernel_rfl
theorem head_list : Try.prog.initOrder.toList = headCodes.map Char.ofNat := by rw [head_eq, String.toList_ofList]
def restWords : List (List Nat) := [[97, 116], [108, 111, 111, 112, 46, 101, 120, 97, 109, 112, 108, 101, 47, 100, 111, 109, 105, 110, 111, 116, 105, 108, 105, 110, 103, 115, 47, 108, 97, 119, 115, 46, 70, 110, 80, 117, 122, 122, 108, 101, 86, 97, 108, 105, 100], [108, 111, 111, 112, 46, 101, 120, 97, 109, 112, 108, 101, 47, 100, 111, 109, 105, 110, 111, 116, 105, 108, 105, 110, 103, 115, 47, 108, 97, 119, 115, 46, 70, 110, 80, 97, 105, 114, 115, 79, 102], [108, 111, 111, 112, 46, 101, 120, 97, 109, 112, 108, 101, 47, 100, 111, 109, 105, 110, 111, 116, 105, 108, 105, 110, 103, 115, 47, 108, 97, 119, 115, 46, 70, 110, 70, 97, 105, 114, 79, 107], [108, 111, 111, 112, 46, 101, 120, 97, 109, 112, 108, 101, 47, 100, 111, 109, 105, 110, 111, 116, 105, 108, 105, 110, 103, 115, 47, 108, 97, 119, 115, 46, 70, 110, 83, 111, 108, 118, 101, 100, 79, 107], [108, 111, 111, 112, 46, 101, 120, 97, 109, 112, 108, 101, 47, 100, 111, 109, 105, 110, 111, 116, 105, 108, 105, 110, 103, 115, 47, 108, 97, 119, 115, 46, 70, 110, 83, 111, 108, 117, 116, 105, 111, 110, 115, 65, 108, 108], [108, 111, 111, 112, 46, 101, 120, 97, 109, 112, 108, 101, 47, 100, 111, 109, 105, 110, 111, 116, 105, 108, 105, 110, 103, 115, 47, 108, 97, 119, 115, 46, 70, 110, 79, 112, 116, 105, 111, 110, 115, 79, 102], [108, 111, 111, 112, 46, 101, 120, 97, 109, 112, 108, 101, 47, 100, 111, 109, 105, 110, 111, 116, 105, 108, 105, 110, 103, 115, 47, 108, 97, 119, 115, 46, 70, 110, 68, 101, 97, 100], [108, 111, 111, 112, 46, 101, 120, 97, 109, 112, 108, 101, 47, 100, 111, 109, 105, 110, 111, 116, 105, 108, 105, 110, 103, 115, 47, 108, 97, 119, 115, 46, 70, 110, 83, 111, 108, 118, 101, 70, 105, 114, 115, 116], [108, 111, 111, 112, 46, 101, 120, 97, 109, 112, 108, 101, 47, 100, 111, 109, 105, 110, 111, 116, 105, 108, 105, 110, 103, 115, 47, 108, 97, 119, 115, 46, 70, 110, 82, 101, 108, 97, 98, 101, 108], [108, 111, 111, 112, 46, 101, 120, 97, 109, 112, 108, 101, 47, 100, 111, 109, 105, 110, 111, 116, 105, 108, 105, 110, 103, 115, 47, 108, 97, 119, 115, 46, 70, 110, 77, 97, 107, 101, 80, 117, 122, 122, 108, 101], [108, 111, 111, 112, 46, 101, 120, 97, 109, 112, 108, 101, 47, 100, 111, 109, 105, 110, 111, 116, 105, 108, 105, 110, 103, 115, 47, 108, 97, 119, 115, 46, 70, 110, 83, 111, 108, 117, 116, 105, 111, 110, 115, 77, 97, 110, 121]]
theorem head_words : behindMainWord (wordsSigns Try.prog.initOrder.toList) = [Char.ofNat 99, Char.ofNat 117, Char.ofNat 116] :: restWords.map (·.map Char.ofNat) := by
  rw [head_list]
  kernel_rfl
theorem strip_head : stripLifts liftWords ([Char.ofNat 99, Char.ofNat 117, Char.ofNat 116] :: restWords.map (·.map Char.ofNat)) = ([], [Char.ofNat 99, Char.ofNat 117, Char.ofNat 116] :: restWords.map (·.map Char.ofNat)) := by kernel_rfl
theorem fact_laysLater : Try.prog.laysLater = false := by kernel_rfl
theorem fact_bearsReflect : Try.prog.bearsReflect = false := by kernel_rfl
theorem fact_doorFits : Try.prog.doorFits [] = true := by kernel_rfl
theorem fact_headLifts : Try.prog.headLifts = [] := by
  unfold Program.headLifts
  rw [head_words, strip_head]
  kernel_rfl
theorem gc_no : ([Char.ofNat 99, Char.ofNat 117, Char.ofNat 116] == "gc".toList) = false := by kernel_rfl
theorem spec_no : ([Char.ofNat 99, Char.ofNat 117, Char.ofNat 116] == "spec".toList) = false := by kernel_rfl
theorem cut_yes : ([Char.ofNat 99, Char.ofNat 117, Char.ofNat 116] == "cut".toList) = true := by kernel_rfl
theorem make_of {P : Program} {c : List Char} {rest : List (List Char)} (h : behindMainWord (wordsSigns P.initOrder.toList) = c :: rest) (h1 : (c == "gc".toList) = false) (h2 : (c == "spec".toList) = false) (h3 : (c == "cut".toList) = true) : P.make = some .cut := by
  unfold Program.make
  rw [h]
  simp only [h1, h2, h3, Bool.or_false, Bool.true_or, Bool.false_eq_true, if_false, if_true]
theorem mayEnter_of {P : Program} {c : List Char} {rest : List (List Char)} (h : behindMainWord (wordsSigns P.initOrder.toList) = c :: rest) (hs : stripLifts liftWords (c :: rest) = ([], c :: rest)) (h3 : (c == "cut".toList) = true)
    (hl : P.laysLater = false) (hb : P.bearsReflect = false) (hd : P.doorFits [] = true) : P.mayEnter = true := by
  unfold Program.mayEnter
  rw [h]
  have hh : (some c == some "cut".toList) = true := by
    rw [show c = "cut".toList by simpa using h3]
    exact beq_self_eq_true _
  simp only [hs, hl, hb, hd, List.head?_cons, hh, Bool.not_false, Bool.or_true, Bool.and_true, List.contains_nil]
theorem fact_mayEnter : Try.prog.mayEnter = true := mayEnter_of head_words strip_head cut_yes fact_laysLater fact_bearsReflect fact_doorFits
theorem fact_make : Try.prog.make = some .cut := make_of head_words gc_no spec_no cut_yes
theorem fact_liftsFinal : Try.prog.liftsFinal = false := by
  unfold Program.liftsFinal
  rw [head_words, fact_headLifts]
  kernel_rfl
end Go.Proofs.Ytlcoaglnegibkaa

namespace Go.Proofs.Ytlcoaglnegibkaa
open Go.ChangeShapes Go.WideShapes Go.ChangeAt Go.RowKit Go.Proofs.Dev

theorem own : ownKnob Try.prog.godebug = none := by kernel_rfl
theorem laidOut : laidOutB Try.prog = true := by kernel_rfl
theorem cells5 : Try.prog.cellsOf 5 = 1 := by kernel_rfl
theorem readable22 : Try.prog.readableRec 22 = true := by kernel_rfl

theorem RL.cons0 {C : Ctx} {a : AV} {bs : List AV} {u : Value} {us : List Value} (h : R C a [] u) (h' : RL C bs [] us) : RL C (a :: bs) [] (u :: us) := by
  rw [RL]; exact ⟨[], [], u, us, rfl, rfl, h, h'⟩
theorem RL.nil0 {C : Ctx} : RL C [] [] [] := by rw [RL]; exact ⟨rfl, rfl⟩

/-- What holds of bytes that may be kept holds of bytes that are read alone. -/
theorem byte_law {P : Program} {f : Nat} {bs : List Int} (h : SoundAt P f [.sl 0 1 (u8s bs)] (.v (.bool true)) [.bot]) : SoundAt P f [.sl 1 1 (u8s bs)] (.v (.bool true)) [.bot] := by
  refine SoundAt.lift (n := 1) (fun C S us hr => noOL_ok _ S us (noOL_u8s 1 bs) hr) rfl ?_
  have e : vwL 0 [AV.sl 1 1 (u8s bs)] = [AV.sl 0 1 (u8s bs)] := by simp [vwL, vw]
  rw [e]
  exact h
end Go.Proofs.Ytlcoaglnegibkaa
