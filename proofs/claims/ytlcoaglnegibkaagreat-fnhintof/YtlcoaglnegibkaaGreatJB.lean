/- Contracts of the functions of the program over slots and rows, each proved against the program itself; no condition beyond those that each theorem names. -/
import Derived.Test.YtlcoaglnegibkaaGreatRows
import Derived.ProofKit
import Derived.Test.YtlcoaglnegibkaaGreatJ

set_option linter.unusedSimpArgs false
set_option linter.unusedVariables false

namespace Go.Proofs.YtlcoaglnegibkaaGreat

def headCodes : List Nat := [104, 97, 114, 110, 101, 115, 115, 32, 51, 50, 98, 101, 57, 57, 98, 99, 49, 49, 48, 57, 49, 100, 99, 50, 99, 101, 102, 54, 57, 102, 49, 52, 54, 97, 50, 49, 102, 53, 54, 98, 99, 56, 102, 55, 99, 49, 50, 50, 51, 101, 55, 102, 102, 99, 100, 49, 48, 50, 100, 98, 102, 55, 99, 99, 102, 100, 101, 99, 101, 54, 98, 98, 32, 99, 117, 116, 32, 97, 116, 32, 108, 111, 111, 112, 46, 101, 120, 97, 109, 112, 108, 101, 47, 100, 111, 109, 105, 110, 111, 116, 105, 108, 105, 110, 103, 115, 47, 108, 97, 119, 115, 46, 70, 110, 70, 111, 114, 99, 101, 79, 110, 101, 32, 108, 111, 111, 112, 46, 101, 120, 97, 109, 112, 108, 101, 47, 100, 111, 109, 105, 110, 111, 116, 105, 108, 105, 110, 103, 115, 47, 108, 97, 119, 115, 46, 70, 110, 70, 111, 114, 99, 101, 65, 108, 108, 32, 108, 111, 111, 112, 46, 101, 120, 97, 109, 112, 108, 101, 47, 100, 111, 109, 105, 110, 111, 116, 105, 108, 105, 110, 103, 115, 47, 108, 97, 119, 115, 46, 70, 110, 72, 105, 110, 116, 79, 102]
theorem head_eq : Tryz.prog.initOrder = String.ofList (headCodes.map Char.ofNat) := by kernel_rfl
theorem head_list : Tryz.prog.initOrder.toList = headCodes.map Char.ofNat := by rw [head_eq, String.toList_ofList]
def restWords : List (List Nat) := [[97, 116], [108, 111, 111, 112, 46, 101, 120, 97, 109, 112, 108, 101, 47, 100, 111, 109, 105, 110, 111, 116, 105, 108, 105, 110, 103, 115, 47, 108, 97, 119, 115, 46, 70, 110, 70, 111, 114, 99, 101, 79, 110, 101], [108, 111, 111, 112, 46, 101, 120, 97, 109, 112, 108, 101, 47, 100, 111, 109, 105, 110, 111, 116, 105, 108, 105, 110, 103, 115, 47, 108, 97, 119, 115, 46, 70, 110, 70, 111, 114, 99, 101, 65, 108, 108], [108, 111, 111, 112, 46, 101, 120, 97, 109, 112, 108, 101, 47, 100, 111, 109, 105, 110, 111, 116, 105, 108, 105, 110, 103, 115, 47, 108, 97, 119, 115, 46, 70, 110, 72, 105, 110, 116, 79, 102]]
theorem head_words : behindMainWord (wordsSigns Tryz.prog.initOrder.toList) = [Char.ofNat 99, Char.ofNat 117, Char.ofNat 116] :: restWords.map (·.map Char.ofNat) := by
  rw [head_list]
  kernel_rfl
theorem strip_head : stripLifts liftWords ([Char.ofNat 99, Char.ofNat 117, Char.ofNat 116] :: restWords.map (·.map Char.ofNat)) = ([], [Char.ofNat 99, Char.ofNat 117, Char.ofNat 116] :: restWords.map (·.map Char.ofNat)) := by kernel_rfl
theorem fact_laysLater : Tryz.prog.laysLater = false := by kernel_rfl
theorem fact_bearsReflect : Tryz.prog.bearsReflect = false := by kernel_rfl
theorem fact_doorFits : Tryz.prog.doorFits [] = true := by kernel_rfl
theorem fact_headLifts : Tryz.prog.headLifts = [] := by
  unfold Program.headLifts
  rw [head_words, strip_head]
  kernel_rfl
theorem gc_no : ([Char.ofNat 99, Char.ofNat 117, Char.ofNat 116] == "gc".toList) = false := by kernel_rfl
theorem spec_no : ([Char.ofNat 99, Char.ofNat 117, Char.ofNat 116] == "spec".toList) = false := by kernel_rfl
theorem cut_yes : ([Char.ofNat 99, Char.ofNat 117, Char.ofNat 116] == "cut".toList) = true := by kernel_rfl
theorem make_of {P : Program} {c : List Char} {rest : List (List Char)} (h : behindMainWord (wordsSigns P.initOrder.toList) = c :: rest) (h1 : (c == "gc".toList) = false) (h2 : (c == "spec".toList) = false) (h3 : (c == "cut".toList) = true) : P.make = some .cut := by
  unfold Program.make
  rw [h]
  simp only [h1, h2, h3, Bool.or_false, Bool.true_or, Bool.false_eq_true, if_false, if_true]
theorem mayEnter_of {P : Program} {c : List Char} {rest : List (List Char)} (h : behindMainWord (wordsSigns P.initOrder.toList) = c :: rest) (hs : stripLifts liftWords (c :: rest) = ([], c :: rest)) (h3 : (c == "cut".toList) = true)
    (hl : P.laysLater = false) (hb : P.bearsReflect = false) (hd : P.doorFits [] = true) : P.mayEnter = true := by
  unfold Program.mayEnter
  rw [h]
  have hh : (some c == some "cut".toList) = true := by
    rw [show c = "cut".toList by simpa using h3]
    exact beq_self_eq_true _
  simp only [hs, hl, hb, hd, List.head?_cons, hh, Bool.not_false, Bool.or_true, Bool.and_true, List.contains_nil]
theorem fact_mayEnter : Tryz.prog.mayEnter = true := mayEnter_of head_words strip_head cut_yes fact_laysLater fact_bearsReflect fact_doorFits
theorem fact_make : Tryz.prog.make = some .cut := make_of head_words gc_no spec_no cut_yes
theorem fact_liftsFinal : Tryz.prog.liftsFinal = false := by
  unfold Program.liftsFinal
  rw [head_words, fact_headLifts]
  kernel_rfl
end Go.Proofs.YtlcoaglnegibkaaGreat

namespace Go.Proofs.YtlcoaglnegibkaaGreat
open Go.ChangeShapes Go.WideShapes Go.ChangeAt Go.RowKit Go.Proofs.Dev

theorem own : ownKnob Tryz.prog.godebug = none := by kernel_rfl
theorem laidOut : laidOutB Tryz.prog = true := by kernel_rfl
theorem cells5 : Tryz.prog.cellsOf 5 = 1 := by kernel_rfl
theorem readable22 : Tryz.prog.readableRec 22 = true := by kernel_rfl

theorem RL.cons0 {C : Ctx} {a : AV} {bs : List AV} {u : Value} {us : List Value} (h : R C a [] u) (h' : RL C bs [] us) : RL C (a :: bs) [] (u :: us) := by
  rw [RL]; exact ⟨[], [], u, us, rfl, rfl, h, h'⟩
theorem RL.nil0 {C : Ctx} : RL C [] [] [] := by rw [RL]; exact ⟨rfl, rfl⟩

/-- What holds of bytes that may be kept holds of bytes that are read alone. -/
theorem byte_law {P : Program} {f : Nat} {bs : List Int} (h : SoundAt P f [.sl 0 1 (u8s bs)] (.v (.bool true)) [.bot]) : SoundAt P f [.sl 1 1 (u8s bs)] (.v (.bool true)) [.bot] := by
  refine SoundAt.lift (n := 1) (fun C S us hr => noOL_ok _ S us (noOL_u8s 1 bs) hr) rfl ?_
  have e : vwL 0 [AV.sl 1 1 (u8s bs)] = [AV.sl 0 1 (u8s bs)] := by simp [vwL, vw]
  rw [e]
  exact h
end Go.Proofs.YtlcoaglnegibkaaGreat
