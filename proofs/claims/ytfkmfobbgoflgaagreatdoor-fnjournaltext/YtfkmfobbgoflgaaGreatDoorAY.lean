/- Contracts of the functions of the program over slots and rows, each proved against the program itself; no condition beyond those that each theorem names. -/
import Derived.Test.YtfkmfobbgoflgaaGreatDoorAX
import Derived.Test.YtfkmfobbgoflgaaGreatDoorAJ
import Derived.Shelf.Strings.Builder1
import Derived.Shelf.Strings.Builder2
import Derived.Shelf.Strings.OnBuilder
import Derived.Test.YtfkmfobbgoflgaaGreatDoorProg
import Derived.Test.YtfkmfobbgoflgaaGreatDoorAT
import Derived.Test.YtfkmfobbgoflgaaGreatDoorAW
import Derived.Test.YtfkmfobbgoflgaaGreatDoorAR
import Derived.Test.YtfkmfobbgoflgaaGreatDoorAI

set_option linter.unusedSimpArgs false
set_option linter.unusedVariables false

namespace Go.Proofs.Dev
set_option linter.unusedSimpArgs false
set_option maxRecDepth 100000

@[simp] theorem vwL_dsY (c : Nat) : ∀ xs : List (Int × Int × Int), vwL c (dsA xs) = dsA xs
  | [] => rfl
  | x :: xs => by show vw c (deedA x) :: vwL c (dsA xs) = deedA x :: dsA xs; rw [vwL_dsY c xs]; rfl
@[simp] theorem take_ds_n (n : Nat) (k : Int) : (dsA (marks3 n k)).take n = dsA (marks3 n k) := List.take_of_length_le (by simp)
@[simp] theorem take_ds_all (xs : List (Int × Int × Int)) : (dsA xs).take xs.length = dsA xs := List.take_of_length_le (by simp)

def jrA (s : List UInt8) : AV := .tup [.os 3 (dsA (jr s).1), .v (.int .i64 ((jr s).2 : Int))]

set_option maxHeartbeats 4000000 in
theorem s_impl_ReadJournal (s : List UInt8) (hs : s.length < 2 ^ 30) : SoundAt Tryz.prog n_impl_ReadJournal [.v (tx s)] (jrA s) [.bot] := by
  refine fn_ok (md := mdJ) (ms := [false]) k_impl_ReadJournal (by simp) ?_
  simp [c_impl_ReadJournal]
  refine loop_by (fun m E H => ∃ (f : Nat) (done : List (Int × Int × Int)), m = s.length - f ∧ f ≤ s.length ∧ jr s = (done ++ (jr (s.drop f)).1, f + (jr (s.drop f)).2) ∧ done.length ≤ f ∧
    H = [some (.arr 3 (dsA done))] ∧ E = [(0, .v (tx s)), (4, .ls 3 0 0 done.length), (5, .v (.int .i64 (f : Int)))]) s.length ⟨0, [], by simp⟩ ?_
  rintro J hJ m E H ⟨f, done, rfl, hf, hj, hd, rfl, rfl⟩
  have cu := s_strings_Cut (s.drop f) 10 (by simp; omega)
  have cl := s_slices_Clip_DeedY done
  have hdt : List.take (s.length - f) (List.drop f s) = List.drop f s := List.take_of_length_le (by simp)
  cases hnl : nl (s.drop f) with
  | none =>
    rw [nl_cut_none hnl] at cu
    rw [jr_none hnl] at hj
    simp only [jrA, hj]
    have rd := s_impl_ReadDeed (s.drop f) (by simp; omega)
    generalize readB (s.drop f) = b at *
    generalize readD (s.drop f) = d at *
    simp only [deedO, deedA] at rd
    simp [c_impl_ReadJournal_L0, hf, hdt]
    refine call_on cu ?_
    simp
    refine call_on rd ?_
    simp
    refine call_on cl ?_
    simp
  | some i =>
    have hi := nl_lt hnl
    simp only [List.length_drop] at hi
    rw [nl_cut_some hnl] at cu
    have rd := s_impl_ReadDeed ((s.drop f).take i) (by simp; omega)
    have hli : ((s.drop f).take i).length = i := by simp; omega
    cases hr : readB ((s.drop f).take i) with
    | false =>
      have hj' := jr_no hnl hr
      rw [hj'] at hj
      rw [hr] at rd
      generalize readD ((s.drop f).take i) = d at *
      simp only [deedO, deedA] at rd
      simp only [jrA, hj]
      simp [c_impl_ReadJournal_L0, hf, hdt]
      refine call_on cu ?_
      simp
      refine call_on rd ?_
      simp
      refine call_on cl ?_
      simp
    | true =>
      have hj' := jr_yes hnl hr
      rw [List.drop_drop, show f + (i + 1) = f + i + 1 by omega] at hj'
      rw [hj'] at hj
      rw [hr] at rd
      generalize readD ((s.drop f).take i) = d at *
      generalize (s.drop f).take i = ln at *
      have nx := hJ (s.length - (f + i + 1)) [(0, .v (tx s)), (4, .ls 3 0 0 (done.length + 1)), (5, .v (.int .i64 ((f : Int) + ((i : Int) + 1))))] [some (.arr 3 (dsA done ++ [deedA d]))]
        ⟨f + i + 1, done ++ [d], rfl, by omega, by rw [hj]; simp; omega, by simp; omega, by rw [dsA_append]; rfl, by simp; omega⟩
      simp only [deedA] at nx
      simp only [deedO, deedA] at rd
      simp [c_impl_ReadJournal_L0, hf, hdt]
      refine call_on cu ?_
      simp
      refine call_on rd ?_
      simp [hli]
      exact ⟨⟨by omega, by omega⟩, ⟨by omega, by omega⟩, ⟨by omega, by omega⟩, _, by omega, nx⟩

end Go.Proofs.Dev

namespace Go.Proofs
open Go.Shelf
def Tryz.lays169_ren : Go.Shelf.Ren := ⟨fun | 169 => 47 | n => n, fun | 70 => 72 | 9 => 9 | 0 => 0 | 72 => 74 | 37 => 22 | 127 => 123 | 3 => 3 | 5 => 5 | n => n, fun | n => n⟩
theorem Tryz.lays169 : Go.Proofs.Lays.n169 Tryz.prog Tryz.lays169_ren := {
  mixed := by kernel_rfl
  f169 := Tryz.func47.trans (congrArg some (by kernel_rfl))
  t0 := Tryz.underlying0
  a0 := Tryz.isAgg0
  z0 := Tryz.sizeOf0
  v0 := Tryz.zeroValue0
  t3 := Tryz.underlying3
  a3 := Tryz.isAgg3
  z3 := Tryz.sizeOf3
  v3 := Tryz.zeroValue3
  t9 := Tryz.underlying9
  a9 := Tryz.isAgg9
  z9 := Tryz.sizeOf9
  v9 := Tryz.zeroValue9
  t37 := Tryz.underlying22
  a37 := Tryz.isAgg22
  z37 := Tryz.sizeOf22
  v37 := Tryz.zeroValue22
  t70 := Tryz.underlying72
  a70 := Tryz.isAgg72
  z70 := Tryz.sizeOf72
  v70 := Tryz.zeroValue72
  t72 := Tryz.underlying74
  a72 := Tryz.isAgg74
  z72 := Tryz.sizeOf74
  v72 := Tryz.zeroValue74
  t127 := Tryz.underlying123
  a127 := Tryz.isAgg123
  z127 := Tryz.sizeOf123
  v127 := Tryz.zeroValue123 }
theorem Tryz.Builder_Extra_169 : Builder.Extra Tryz.prog Tryz.lays169_ren := {
  sizeBuilder := by kernel_rfl
  liesBuilder := by kernel_rfl
  t5 := Tryz.underlying5
  a5 := Tryz.isAgg5
  z5 := Tryz.sizeOf5
  v5 := Tryz.zeroValue5
  infoByte := by kernel_rfl
  cellsByte := by kernel_rfl
  sizeByte := by kernel_rfl
  neB5 := by decide }
open Go.RowKit in
/-- (*strings.Builder).String: "String returns the accumulated string.": WHATEVER THE BUILDER HOLDS. (LAID: no walk: one application.) -/
theorem Tryz.Builder_String_any (B b : Nat) (l : List UInt8) (w : World) (h : Lib.IsBuilder 74 5 B b (Lib.byteCells l) w) (hBw : B ≤ w.heap.size) :
    Calls Tryz.prog 47 #[.pointer (some ⟨b, 0, none⟩)] w fun e w' => e = .returned (.string ⟨l.toArray⟩) ∧ Below B w w' := Any.Builder_String_any Tryz.lays169 Tryz.Builder_Extra_169 B b l w h hBw
def Tryz.lays156_ren : Go.Shelf.Ren := ⟨fun | 156 => 226 | 165 => 257 | 166 => 46 | 169 => 47 | 240 => 104 | 241 => 278 | 276 => 158 | 277 => 287 | n => n, fun | 31 => 58 | 9 => 9 | 3 => 3 | 4 => 4 | 0 => 0 | 20 => 20 | 72 => 74 | 76 => 77 | 70 => 72 | 37 => 22 | 75 => 76 | 127 => 123 | 164 => 152 | 5 => 5 | 80 => 79 | n => n, fun | n => n⟩
theorem Tryz.lays156 : Go.Proofs.Lays.n156 Tryz.prog Tryz.lays156_ren := {
  mixed := by kernel_rfl
  f156 := Tryz.func226.trans (congrArg some (by kernel_rfl))
  f165 := Tryz.func257.trans (congrArg some (by kernel_rfl))
  f166 := Tryz.func46.trans (congrArg some (by kernel_rfl))
  f169 := Tryz.func47.trans (congrArg some (by kernel_rfl))
  f240 := Tryz.func104.trans (congrArg some (by kernel_rfl))
  f241 := Tryz.func278.trans (congrArg some (by kernel_rfl))
  f276 := Tryz.func158.trans (congrArg some (by kernel_rfl))
  f277 := Tryz.func287.trans (congrArg some (by kernel_rfl))
  t0 := Tryz.underlying0
  a0 := Tryz.isAgg0
  z0 := Tryz.sizeOf0
  v0 := Tryz.zeroValue0
  t3 := Tryz.underlying3
  a3 := Tryz.isAgg3
  z3 := Tryz.sizeOf3
  v3 := Tryz.zeroValue3
  t4 := Tryz.underlying4
  a4 := Tryz.isAgg4
  z4 := Tryz.sizeOf4
  v4 := Tryz.zeroValue4
  t9 := Tryz.underlying9
  a9 := Tryz.isAgg9
  z9 := Tryz.sizeOf9
  v9 := Tryz.zeroValue9
  t20 := Tryz.underlying20
  a20 := Tryz.isAgg20
  z20 := Tryz.sizeOf20
  v20 := Tryz.zeroValue20
  t31 := Tryz.underlying58
  a31 := Tryz.isAgg58
  z31 := Tryz.sizeOf58
  v31 := Tryz.zeroValue58
  t37 := Tryz.underlying22
  a37 := Tryz.isAgg22
  z37 := Tryz.sizeOf22
  v37 := Tryz.zeroValue22
  t70 := Tryz.underlying72
  a70 := Tryz.isAgg72
  z70 := Tryz.sizeOf72
  v70 := Tryz.zeroValue72
  t72 := Tryz.underlying74
  a72 := Tryz.isAgg74
  z72 := Tryz.sizeOf74
  v72 := Tryz.zeroValue74
  t75 := Tryz.underlying76
  a75 := Tryz.isAgg76
  z75 := Tryz.sizeOf76
  v75 := Tryz.zeroValue76
  t76 := Tryz.underlying77
  a76 := Tryz.isAgg77
  z76 := Tryz.sizeOf77
  v76 := Tryz.zeroValue77
  t127 := Tryz.underlying123
  a127 := Tryz.isAgg123
  z127 := Tryz.sizeOf123
  v127 := Tryz.zeroValue123
  t164 := Tryz.underlying152
  a164 := Tryz.isAgg152
  z164 := Tryz.sizeOf152
  v164 := Tryz.zeroValue152 }
theorem Tryz.Builder_Extra_156 : Builder.Extra Tryz.prog Tryz.lays156_ren := {
  sizeBuilder := by kernel_rfl
  liesBuilder := by kernel_rfl
  t5 := Tryz.underlying5
  a5 := Tryz.isAgg5
  z5 := Tryz.sizeOf5
  v5 := Tryz.zeroValue5
  infoByte := by kernel_rfl
  cellsByte := by kernel_rfl
  sizeByte := by kernel_rfl
  neB5 := by decide }
end Go.Proofs

namespace Go.Proofs
open Go.Shelf
set_option maxRecDepth 1000000
theorem Tryz.lays166 : Go.Proofs.Lays.n166 Tryz.prog Tryz.lays156_ren :=
  have L := Tryz.lays156
  { mixed := L.mixed, f166 := L.f166, f240 := L.f240, f276 := L.f276, t0 := L.t0, a0 := L.a0, z0 := L.z0, v0 := L.v0, t3 := L.t3, a3 := L.a3, z3 := L.z3, v3 := L.v3, t4 := L.t4, a4 := L.a4, z4 := L.z4, v4 := L.v4, t9 := L.t9, a9 := L.a9, z9 := L.z9, v9 := L.v9, t20 := L.t20, a20 := L.a20, z20 := L.z20, v20 := L.v20, t37 := L.t37, a37 := L.a37, z37 := L.z37, v37 := L.v37, t70 := L.t70, a70 := L.a70, z70 := L.z70, v70 := L.v70, t72 := L.t72, a72 := L.a72, z72 := L.z72, v72 := L.v72, t75 := L.t75, a75 := L.a75, z75 := L.z75, v75 := L.v75, t164 := L.t164, a164 := L.a164, z164 := L.z164, v164 := L.v164 }
open Go.RowKit in
/-- (*strings.Builder).WriteString: the text is appended; below B the world is as it was. -/
theorem Tryz.Builder_WriteString (B b : Nat) (bs : List Value) (s : ByteArray) (w : World) (h : Lib.IsBuilder 74 5 B b bs w) (hlen : bs.length + s.size ≤ 140737488355328) (hBw : B ≤ w.heap.size) :
    Calls Tryz.prog 46 #[.pointer (some ⟨b, 0, none⟩), .string s] w fun e w' => e = .returned (.tuple #[.int .i64 s.size, .nilIface]) ∧ Lib.IsBuilder 74 5 B b (bs ++ Lib.strCells s) w' ∧ Below B w w' :=
  (Any.Builder_WriteString Tryz.lays166 Tryz.Builder_Extra_156 B b bs s w h hlen hBw).mono fun _ _ ⟨h1, h2, h3⟩ => ⟨h1, Or.inr h2, h3⟩
end Go.Proofs

namespace Go.Proofs.Dev
open Go.RowKit Go.Shelf
set_option linter.unusedVariables false

/-- The text of a journal: none if a deed has none. -/
def jTextL : List (Int × Int × Int) → List UInt8
  | [] => []
  | d :: xs => dText d ++ 10 :: jTextL xs
def jText (xs : List (Int × Int × Int)) : List UInt8 := if xs.all txtOk then jTextL xs else []

theorem jl_len : ∀ xs : List (Int × Int × Int), (jTextL xs).length ≤ 13 * xs.length
  | [] => by simp [jTextL]
  | d :: xs => by
    have := jl_len xs
    have := deed_len d
    simp only [jTextL, List.length_append, List.length_cons]
    omega

theorem builder_keep {T e : TypeId} {B b : Nat} {bs : List Value} {w w' : World} (h : Go.Lib.IsBuilder T e B b bs w) (k : Below w.heap.size w w') : Go.Lib.IsBuilder T e B b bs w' := by
  have at' : ∀ p, Go.Lib.BuilderAt T e B b p bs w → Go.Lib.BuilderAt T e B b p bs w' := by
    rintro p ⟨hB, v, hb, hown, hne⟩
    exact ⟨hB, v, by rw [k.block b (Array.getElem?_eq_some_iff.1 hb).1]; exact hb, hown.kept (row := none) ⟨k.os, k.tape, k.output, k.size, fun i hi _ => k.block i hi⟩ (Classical.em _), hne⟩
  exact h.imp (at' _) (at' _)

set_option maxHeartbeats 4000000 in
set_option maxRecDepth 100000 in
theorem j_calls (xs : List (Int × Int × Int)) (b p c : Nat) (w : World) (hx : xs.length ≤ 2000000)
    (hdt : ∀ (wr : World) (d : Int × Int × Int), Below w.heap.size w wr → Calls Tryz.prog 20 #[.agg #[.int .i64 d.1, .int .i64 d.2.1, .int .i64 d.2.2]] wr fun e w' => e = .returned (.string ⟨(dText d).toArray⟩) ∧ Below wr.heap.size wr w')
    (hcells : ∀ (j : Nat) (d : Int × Int × Int), xs[j]? = some d → w.cell? ⟨b, p + j * 3, none⟩ = some (.int .i64 d.1) ∧ w.cell? ⟨b, p + j * 3 + 1, none⟩ = some (.int .i64 d.2.1) ∧ w.cell? ⟨b, p + j * 3 + 2, none⟩ = some (.int .i64 d.2.2))
    (hb : b < w.heap.size) (hc : xs.length ≤ c) :
    Calls Tryz.prog 10 #[.slice (some ⟨b, p, none⟩) xs.length c] w fun e w' => e = .returned (.string ⟨(jText xs).toArray⟩) ∧ Below w.heap.size w w' := by
  have mixed := Tryz.lays156.mixed
  have t66 := Tryz.underlying74; have a66 := Tryz.isAgg74; have z66 := Tryz.sizeOf74; have v66 := Tryz.zeroValue74; have u66 := run_underlying Tryz.underlying74
  have t25 := Tryz.underlying46; have a25 := Tryz.isAgg46; have z25 := Tryz.sizeOf46; have v25 := Tryz.zeroValue46; have u25 := run_underlying Tryz.underlying46
  have t31 := Tryz.underlying23; have a31 := Tryz.isAgg23; have z31 := Tryz.sizeOf23; have v31 := Tryz.zeroValue23; have u31 := run_underlying Tryz.underlying23
  have t3 := Tryz.underlying3; have a3 := Tryz.isAgg3; have z3 := Tryz.sizeOf3; have v3 := Tryz.zeroValue3; have u3 := run_underlying Tryz.underlying3
  have t9 := Tryz.underlying9; have a9 := Tryz.isAgg9; have z9 := Tryz.sizeOf9; have v9 := Tryz.zeroValue9; have u9 := run_underlying Tryz.underlying9
  have t4 := Tryz.underlying4; have a4 := Tryz.isAgg4; have z4 := Tryz.sizeOf4; have v4 := Tryz.zeroValue4; have u4 := run_underlying Tryz.underlying4
  have e12 : ∀ args w, (callFunc 20 args).run Tryz.prog w = .ok (.enter 20 args) w := enters_of Tryz.func20 (by kernel_rfl) rfl
  have e48 : ∀ args w, (callFunc 46 args).run Tryz.prog w = .ok (.enter 46 args) w := enters_of Tryz.func46 (by kernel_rfl) rfl
  have e49 : ∀ args w, (callFunc 47 args).run Tryz.prog w = .ok (.enter 47 args) w := enters_of Tryz.func47 (by kernel_rfl) rfl
  have HC := Any.hidJ hcells
  have HD := Any.hidJ hdt
  clear hcells hdt
  go_enter Tryz.func10, Tryz.ntmps10
  go_wp2_with fail
  go_loopw [9] (fun i wr => ∃ k : Nat, k ≤ xs.length ∧ i = .int .i64 k ∧ (xs.take k).all txtOk = true ∧ Hid (Lib.IsBuilder 74 5 w.heap.size w.heap.size (Lib.byteCells (jTextL (xs.take k))) wr) ∧ Hid (Below w.heap.size w wr)) (fun i _ => xs.length - (intOf i).toNat)
  case atStart => exact ⟨0, Nat.zero_le _, rfl, rfl, Lib.fresh_isBuilder 74 5 w, (Below.refl w.heap.size w).alloc (Nat.le_refl _) _⟩
  case round =>
    obtain ⟨k, hk, rfl, hall, HB, HW⟩ := hrel
    by_cases hkn : k < xs.length
    · obtain ⟨d, hd⟩ : ∃ d, xs[k]? = some d := ⟨xs[k], List.getElem?_eq_getElem hkn⟩
      obtain ⟨c0, c1, c2⟩ := HC.out k d hd
      have hl := HW.out
      have c0' : wr.cell? ⟨b, p + k * 3, none⟩ = some (.int .i64 d.1) := by rw [hl.cell (p := ⟨b, p + k * 3, none⟩) hb]; exact c0
      have c1' : wr.cell? ⟨b, p + k * 3 + 1, none⟩ = some (.int .i64 d.2.1) := by rw [hl.cell (p := ⟨b, p + k * 3 + 1, none⟩) hb]; exact c1
      have c2' : wr.cell? ⟨b, p + k * 3 + 2, none⟩ = some (.int .i64 d.2.2) := by rw [hl.cell (p := ⟨b, p + k * 3 + 2, none⟩) hb]; exact c2
      have hbr : b < wr.heap.size := Nat.lt_of_lt_of_le hb hl.size
      clear c0 c1 c2 hl
      go_wp2_with fail
      refine (HD.out (wr.alloc _) d (HW.out.alloc HW.out.size _)).mono ?_
      rintro e w1 ⟨rfl, hb1⟩
      have hb1' : Below wr.heap.size wr w1 := ((Below.refl wr.heap.size wr).alloc (Nat.le_refl _) _).trans ⟨hb1.os, hb1.tape, hb1.output, hb1.size, fun i hi => hb1.block i (by simp; omega)⟩
      have HB1 := Any.hidJ (builder_keep HB.out hb1')
      have HW1 := Any.hidJ (HW.out.trans ⟨hb1'.os, hb1'.tape, hb1'.output, hb1'.size, fun i hi => hb1'.block i (Nat.lt_of_lt_of_le hi HW.out.size)⟩ : Below w.heap.size w w1)
      have hBw1 : w.heap.size ≤ w1.heap.size := HW1.out.size
      clear hb1 hb1'
      have htk : xs.take (k + 1) = xs.take k ++ [d] := by
        obtain ⟨hk2, rfl⟩ := List.getElem?_eq_some_iff.1 hd
        exact List.take_succ_eq_append_getElem hk2
      cases ht : txtOk d with
      | false =>
        have hr : jText xs = [] := by
          rw [jText, if_neg]
          intro h
          have := List.all_eq_true.1 h d (List.mem_of_getElem? hd)
          rw [ht] at this
          cases this
        rw [(dText_nil d).2 ht]
        have Hr := Any.hidJ hr
        clear hr
        go_wp2
        go_ret
        exact ⟨by rw [Hr.out]; rfl, HW1.out⟩
      | true =>
        have hne := (deed_text ht).2
        have hlen := deed_len d
        have hj : jTextL (xs.take (k + 1)) = jTextL (xs.take k) ++ (dText d ++ [10]) := by
          rw [htk]
          have : ∀ ys : List (Int × Int × Int), jTextL (ys ++ [d]) = jTextL ys ++ (dText d ++ [10]) := by
            intro ys
            induction ys with
            | nil => rfl
            | cons y ys ih => show dText y ++ 10 :: jTextL (ys ++ [d]) = (dText y ++ 10 :: jTextL ys) ++ _; rw [ih]; simp
          exact this _
        have Hj := Any.hidJ hj
        have Htk := Any.hidJ htk
        clear hj htk
        generalize dText d = t at *
        have hcmp : t.isEmpty = false := by
          cases t with
          | nil => exact absurd rfl hne
          | cons => rfl
        go_wp2_with fail
        have hsz : (Go.Lib.byteCells (jTextL (xs.take k))).length + (ByteArray.mk (t ++ [10]).toArray).size ≤ 140737488355328 := by
          rw [Go.Lib.byteCells_length, tx_size]
          have := jl_len (xs.take k)
          have h2 : (xs.take k).length ≤ xs.length := by rw [List.length_take]; omega
          simp only [List.length_append, List.length_singleton]
          omega
        have hstr : Go.Lib.strCells ⟨(t ++ [10]).toArray⟩ = Go.Lib.byteCells (t ++ [10]) := by rw [Go.Lib.strCells_eq]
        generalize ByteArray.mk (t ++ [10]).toArray = str at *
        have Hstr := Any.hidJ hstr
        clear hstr
        refine (Tryz.Builder_WriteString w.heap.size w.heap.size (Go.Lib.byteCells (jTextL (xs.take k))) str w1 HB1.out hsz hBw1).mono ?_
        rintro e w2 ⟨rfl, h2, hb2⟩
        rw [Hstr.out, ← Go.Lib.byteCells_append, ← Hj.out] at h2
        have H2 := Any.hidJ h2
        have Hb2 := Any.hidJ (HW1.out.trans hb2)
        have ha2 : (xs.take (k + 1)).all txtOk = true := by rw [Htk.out, List.all_append, hall]; simp [ht]
        clear h2 hb2 hsz
        go_wp2
        exact ⟨⟨k + 1, by omega, by go_num, ha2, H2, Hb2⟩, by simp [intOf]; omega⟩
    · have hke : k = xs.length := by omega
      subst hke
      have hB' := HB.out
      rw [List.take_of_length_le (Nat.le_refl _)] at hB' hall
      have Hr := Any.hidJ (show jText xs = jTextL xs from if_pos hall)
      have hBw : w.heap.size ≤ wr.heap.size := HW.out.size
      go_wp2_with fail
      refine (Tryz.Builder_String_any w.heap.size w.heap.size _ wr hB' hBw).mono ?_
      rintro e w5 ⟨rfl, hb5⟩
      have Hb5 := Any.hidJ (HW.out.trans hb5)
      clear hb5 hB'
      go_wp2
      go_ret
      exact ⟨by rw [Hr.out]; rfl, Hb5.out⟩

set_option maxHeartbeats 4000000 in
set_option maxRecDepth 100000 in
theorem j_none (a : Option Addr) (c : Nat) (w : World) :
    Calls Tryz.prog 10 #[.slice a 0 c] w fun e w' => e = .returned (.string ⟨(jText []).toArray⟩) ∧ Below w.heap.size w w' := by
  have mixed := Tryz.lays156.mixed
  have t66 := Tryz.underlying74; have a66 := Tryz.isAgg74; have z66 := Tryz.sizeOf74; have v66 := Tryz.zeroValue74; have u66 := run_underlying Tryz.underlying74
  have t25 := Tryz.underlying46; have a25 := Tryz.isAgg46; have z25 := Tryz.sizeOf46; have v25 := Tryz.zeroValue46; have u25 := run_underlying Tryz.underlying46
  have t31 := Tryz.underlying23; have a31 := Tryz.isAgg23; have z31 := Tryz.sizeOf23; have v31 := Tryz.zeroValue23; have u31 := run_underlying Tryz.underlying23
  have t3 := Tryz.underlying3; have a3 := Tryz.isAgg3; have z3 := Tryz.sizeOf3; have v3 := Tryz.zeroValue3; have u3 := run_underlying Tryz.underlying3
  have t9 := Tryz.underlying9; have a9 := Tryz.isAgg9; have z9 := Tryz.sizeOf9; have v9 := Tryz.zeroValue9; have u9 := run_underlying Tryz.underlying9
  have t4 := Tryz.underlying4; have a4 := Tryz.isAgg4; have z4 := Tryz.sizeOf4; have v4 := Tryz.zeroValue4; have u4 := run_underlying Tryz.underlying4
  have e12 : ∀ args w, (callFunc 20 args).run Tryz.prog w = .ok (.enter 20 args) w := enters_of Tryz.func20 (by kernel_rfl) rfl
  have e48 : ∀ args w, (callFunc 46 args).run Tryz.prog w = .ok (.enter 46 args) w := enters_of Tryz.func46 (by kernel_rfl) rfl
  have e49 : ∀ args w, (callFunc 47 args).run Tryz.prog w = .ok (.enter 47 args) w := enters_of Tryz.func47 (by kernel_rfl) rfl
  go_enter Tryz.func10, Tryz.ntmps10
  go_wp2_with fail
  go_loopw [9] (fun i wr => i = .int .i64 0 ∧ Hid (Go.Lib.IsBuilder 74 5 w.heap.size w.heap.size (Go.Lib.byteCells []) wr) ∧ Hid (Below w.heap.size w wr)) (fun _ _ => 0)
  case atStart => exact ⟨rfl, Go.Lib.fresh_isBuilder 74 5 w, (Below.refl w.heap.size w).alloc (Nat.le_refl _) _⟩
  case round =>
    obtain ⟨rfl, HB, HW⟩ := hrel
    have hBw : w.heap.size ≤ wr.heap.size := HW.out.size
    go_wp2_with fail
    refine (Tryz.Builder_String_any w.heap.size w.heap.size _ wr HB.out hBw).mono ?_
    rintro e w5 ⟨rfl, hb5⟩
    have Hb5 := Any.hidJ (HW.out.trans hb5)
    clear hb5
    go_wp2
    go_ret
    exact ⟨rfl, Hb5.out⟩

end Go.Proofs.Dev

namespace Go.Proofs.Dev
open Go.RowKit Go.Shelf
set_option linter.unusedVariables false
set_option linter.unusedSimpArgs false

theorem GB.below {w w' : World} {S : List Nat} {forb : Nat → Prop} (h : GB w S forb) (k : Below w.heap.size w w') : GB w' S forb := by
  refine ⟨RL.step (C := gCtx w S forb) (C' := gCtx w' S forb) ⟨k.size, ?_, fun _ _ hx => by simp [gCtx] at hx, Nat.le_refl _, fun _ _ => rfl, ?_⟩ gAs [] gUs (by simp) h.1, ?_⟩
  · intro c b hb hbad
    exact ⟨hbad, k.block b hb⟩
  · exact (kept_of_below [] k).room
  · intro p hp
    obtain ⟨h1, u, hu, hq⟩ := h.2 p hp
    exact ⟨h1, u, (World.cell?_of_block (k.block _ (block_lt_of_cell hu))).trans hu, hq⟩

/-- The cells of deeds, one after the other. -/
def cellsD (xs : List (Int × Int × Int)) : List Value := xs.flatMap fun d => [.int .i64 d.1, .int .i64 d.2.1, .int .i64 d.2.2]
theorem RL_ds_us {C : Ctx} : ∀ {xs : List (Int × Int × Int)} {S : List Nat} {us : List Value}, RL C (flatE (dsA xs)) S us → us = cellsD xs
  | [], S, us, h => by
    have h' : RL C [] S us := h
    rw [RL] at h'
    exact h'.2
  | d :: xs, S, us, h => by
    have h' : RL C (.v (.int .i64 d.1) :: .v (.int .i64 d.2.1) :: .v (.int .i64 d.2.2) :: flatE (dsA xs)) S us := h
    rw [RL] at h'
    obtain ⟨S1, S2, u, us', rfl, rfl, h1, h2⟩ := h'
    rw [RL] at h2
    obtain ⟨S3, S4, v, us2, rfl, rfl, h3, h4⟩ := h2
    rw [RL] at h4
    obtain ⟨S5, S6, x, us3, rfl, rfl, h5, h6⟩ := h4
    rw [R] at h1 h3 h5
    rw [RL_ds_us h6, h1.2, h3.2, h5.2]
    rfl
theorem cellsD_get : ∀ {xs : List (Int × Int × Int)} {j : Nat} {d : Int × Int × Int}, xs[j]? = some d → (cellsD xs)[j * 3]? = some (.int .i64 d.1) ∧ (cellsD xs)[j * 3 + 1]? = some (.int .i64 d.2.1) ∧ (cellsD xs)[j * 3 + 2]? = some (.int .i64 d.2.2)
  | [], j, d, h => by simp at h
  | e :: xs, 0, d, h => by
    have : e = d := by simpa using h
    subst this
    exact ⟨rfl, rfl, rfl⟩
  | e :: xs, j + 1, d, h => by
    have ih := cellsD_get (xs := xs) (j := j) (d := d) (by simpa using h)
    have e1 : cellsD (e :: xs) = .int .i64 e.1 :: .int .i64 e.2.1 :: .int .i64 e.2.2 :: cellsD xs := rfl
    rw [e1, Nat.succ_mul]
    exact ih

theorem dt_calls {w : World} {forb : Nat → Prop} (hg : GB w [] forb) (hforb : ∀ x, forb x → x < w.heap.size) (d : Int × Int × Int) :
    Calls Tryz.prog 20 #[.agg #[.int .i64 d.1, .int .i64 d.2.1, .int .i64 d.2.2]] w fun e w' => e = .returned (.string ⟨(dText d).toArray⟩) ∧ Below w.heap.size w w' := by
  have hr : RL (cin w [] forb) [deedA d] [] [.agg #[.int .i64 d.1, .int .i64 d.2.1, .int .i64 d.2.2]] := by
    rw [RL]
    refine ⟨[], [], _, _, rfl, rfl, ?_, by rw [RL]; exact ⟨rfl, rfl⟩⟩
    unfold deedA
    rw [R]
    refine ⟨[_, _, _], rfl, ?_⟩
    rw [RL]; refine ⟨[], [], _, _, rfl, rfl, by rw [R]; exact ⟨rfl, rfl⟩, ?_⟩
    rw [RL]; refine ⟨[], [], _, _, rfl, rfl, by rw [R]; exact ⟨rfl, rfl⟩, ?_⟩
    rw [RL]; exact ⟨[], [], _, _, rfl, rfl, by rw [R]; exact ⟨rfl, rfl⟩, by rw [RL]; exact ⟨rfl, rfl⟩⟩
  refine (s_impl_DeedText d w forb _ [] hr (by simp) (by simp) ⟨hforb, hg⟩).mono ?_
  rintro e w' ⟨v, S', rfl, hrl, _, _, hk⟩
  rw [RL] at hrl
  obtain ⟨S1, S2, u, us', _, huv, h1, _⟩ := hrl
  cases huv
  rw [R] at h1
  obtain ⟨_, rfl⟩ := h1
  exact ⟨rfl, kept_below hk⟩

theorem s_impl_JournalText (xs : List (Int × Int × Int)) (hx : xs.length ≤ 2000000) : SoundAt Tryz.prog 10 [.sl 1 3 (dsA xs)] (.v (tx (jText xs))) [.bot] := by
  intro w forb us S hr hnd hlt hforb
  rw [RL] at hr
  obtain ⟨S1, S2, u, us', rfl, rfl, h1, h2⟩ := hr
  rw [RL] at h2
  obtain ⟨rfl, rfl⟩ := h2
  rw [R] at h1
  obtain ⟨rfl, a, cap, rfl, hcap, h3⟩ := h1
  have fin : ∀ w', Below w.heap.size w w' → ∃ v S', Ending.returned (Value.string ⟨(jText xs).toArray⟩) = .returned v ∧ RL (cout w' S' forb) (.v (tx (jText xs)) :: [.bot]) S' (v :: [.slice a (dsA xs).length cap]) ∧ S'.Nodup ∧ (∀ x ∈ S', x < w'.heap.size ∧ (w.heap.size ≤ x ∨ x ∈ ([] ++ [] : List Nat))) ∧ Kept w.heap.size ([] ++ []) w w' := by
    intro w' hk
    refine ⟨_, [], rfl, ?_, by simp, by simp, kept_of_below _ hk⟩
    rw [RL]; refine ⟨[], [], _, _, rfl, rfl, by rw [R]; exact ⟨rfl, rfl⟩, ?_⟩
    rw [RL]; exact ⟨[], [], _, _, rfl, rfl, by rw [R], by rw [RL]; exact ⟨rfl, rfl⟩⟩
  by_cases h0 : xs = []
  · subst h0
    refine (j_none a cap w).mono ?_
    rintro e w' ⟨rfl, hb⟩
    exact fin _ hb
  · rcases h3 with h3 | ⟨b, p, us, rfl, hb, _, hc, _, hrl⟩
    · exact absurd (by simpa using congrArg List.length h3) h0
    have hus := RL_ds_us hrl
    subst hus
    have hg : GB w [] forb := hforb.2.mono (fun x hx => by simpa using hx)
    rw [dsA_length] at hcap
    have := j_calls xs b p cap w hx (fun wr d hk => dt_calls (hg.below hk) (fun x hx' => Nat.lt_of_lt_of_le (hforb.1 x hx') hk.size) d) (fun j d hd => by
      obtain ⟨c0, c1, c2⟩ := cellsD_get hd
      exact ⟨hc _ _ c0, hc _ _ c1, hc _ _ c2⟩) hb hcap
    simp only [dsA_length] at fin ⊢
    refine this.mono ?_
    rintro e w' ⟨rfl, hbl⟩
    exact fin w' hbl

end Go.Proofs.Dev

namespace Go.Proofs.Dev
open Go.RowKit
set_option linter.unusedSimpArgs false
set_option maxRecDepth 100000

theorem jl_succ {xs : List (Int × Int × Int)} {k : Nat} (h : k < xs.length) : jTextL (xs.take (k + 1)) = jTextL (xs.take k) ++ dText xs[k] ++ [10] := by
  rw [List.take_succ_eq_append_getElem h]
  have : ∀ ys : List (Int × Int × Int), jTextL (ys ++ [xs[k]]) = jTextL ys ++ dText xs[k] ++ [10] := by
    intro ys
    induction ys with
    | nil => simp [jTextL]
    | cons y ys ih => show dText y ++ 10 :: jTextL (ys ++ [xs[k]]) = _; rw [ih]; simp [jTextL]
  exact this _

set_option maxHeartbeats 2000000 in
theorem s_spec_JournalText (xs : List (Int × Int × Int)) (hx : xs.length ≤ 2000000) : SoundAt Tryz.prog n_spec_JournalText [.sl 1 3 (dsA xs)] (.v (tx (jText xs))) [.bot] := by
  refine fn_ok (md := mdT) (ms := [false]) k_spec_JournalText (by simp) ?_
  simp [c_spec_JournalText]
  refine loop_by (fun m E H => ∃ k : Nat, m = xs.length - k ∧ k ≤ xs.length ∧ (xs.take k).all txtOk = true ∧ H = [] ∧ E = [(0, .sl 1 3 (dsA xs)), (3, .v (tx (jTextL (xs.take k)))), (4, .v (.int .i64 k))]) xs.length ⟨0, by simp [jTextL]⟩ ?_
  rintro J hJ m E H ⟨k, rfl, hk, ha, rfl, rfl⟩
  by_cases h : k < xs.length
  · have dt := s_spec_DeedText xs[k]
    have hlen := deed_len xs[k]
    have hl := jl_len (xs.take k)
    have hl2 : (xs.take k).length ≤ xs.length := by rw [List.length_take]; omega
    cases ht : txtOk xs[k] with
    | true =>
      have nx := hJ (xs.length - (k + 1)) [(0, .sl 1 3 (dsA xs)), (3, .v (tx (jTextL (xs.take (k + 1))))), (4, .v (.int .i64 ((k : Int) + 1)))] [] ⟨k + 1, rfl, h, by rw [List.take_succ_eq_append_getElem h, List.all_append, ha]; simp [ht], rfl, by simp⟩
      rw [jl_succ h] at nx
      have hne := (deed_text ht).2
      generalize dText xs[k] = t at *
      generalize jTextL (xs.take k) = o at *
      simp only [deedA] at dt
      simp [c_spec_JournalText_L0, h, aiadr_ds, deedC]
      refine call_on dt ?_
      simp [hne, h, aiadr_ds, deedC]
      refine call_on dt ?_
      simp
      rw [List.append_assoc] at nx
      exact ⟨by omega, by omega, by omega, _, by omega, nx⟩
    | false =>
      have hr : jText xs = [] := by
        rw [jText, if_neg]
        intro h2
        have := List.all_eq_true.1 h2 xs[k] (List.getElem_mem h)
        rw [ht] at this
        cases this
      rw [hr]
      rw [(dText_nil _).2 ht] at dt
      simp only [deedA] at dt
      simp [c_spec_JournalText_L0, h, aiadr_ds, deedC]
      refine call_on dt ?_
      simp
  · have : k = xs.length := by omega
    subst this
    rw [List.take_length] at ha ⊢
    have hr : jText xs = jTextL xs := if_pos ha
    rw [hr]
    simp [c_spec_JournalText_L0]

end Go.Proofs.Dev

namespace Go.Proofs.Dev
open Go.RowKit
set_option linter.unusedSimpArgs false
set_option maxRecDepth 100000

@[simp] def md10 (f : Nat) : List Bool := if f = 999999 ∨ f = 999999 then [true] else if f = 55 then [true, false] else md8 f

end Go.Proofs.Dev

namespace Go.Proofs.Dev

-- 1 parameters, results [.t 2], 9 slots, modes [true]
@[simp] abbrev n_slices_Clip_string_string : Nat := 95

end Go.Proofs.Dev

namespace Go.Proofs.Dev

-- 2 parameters, results [.t 4], 25 slots, modes [true, false]
@[simp] abbrev n_spec_l20Line : Nat := 97

-- 1 parameters, results [.c 2 true 6, .t 3], 14 slots, modes [false]
@[simp] abbrev n_spec_DrawBookLine : Nat := 36

-- 1 parameters, results [.t 2], 27 slots, modes [false]
@[simp] abbrev n_spec_DrawReadJournal : Nat := 15

end Go.Proofs.Dev

namespace Go.Proofs.Dev
open Go.RowKit
set_option linter.unusedSimpArgs false
set_option maxRecDepth 100000

@[simp] def md11 (f : Nat) : List Bool := if f = n_spec_l20Line ∨ f = 61 ∨ f = 34 ∨ f = 65 then [true, false] else if f = n_spec_l20Written ∨ f = n_spec_DrawJournalText ∨ f = n_spec_DrawReadJournal ∨ f = n_spec_DrawBookLine ∨ f = 39 ∨ f = n_slices_Clip_string_string then [true] else md10 f

def writSet (bs : List Int) (p d : Nat) (r : AV) (ups : List AV) : Prop := ∃ (xs : List Deed) (q : Nat), xs.length ≤ 12 ∧ (∀ x ∈ xs, txtOk x = true) ∧ q ≤ p + d ∧ r = .os 3 (dsA xs) ∧ ups = [rdA bs q]

theorem s_spec_l20Written (bs : List Int) (p : Nat) (hb : bs.length ≤ 2000) (hB : Byt bs) (hp : p < 2 ^ 32) : SoundSet Tryz.prog n_spec_l20Written [rdA bs p] (writSet bs p 1200) := by
  refine fn_okS (md := md11) (ms := [true]) k_spec_l20Written (by simp) ?_
  simp [c_spec_l20Written]
  refine call_onK (s_spec_l20Book bs p 0 hb hB (by omega) (by omega) (by omega)) [0] (by simp) (by simp) (by simp) ?_
  rintro _ _ ⟨W, T, cs, ds, ls, ps, q, h1, h2, h3, h4, h5, hq, rfl, rfl⟩
  simp
  refine call_onK (s_spec_l20Deeds bs q W T cs ds ls ps hb hB (by omega) (by omega) (by omega) (by omega) (by omega) (fun p hp => by have := h5 p hp; omega)) [0] (by simp) (by simp) (by simp) ?_
  rintro _ _ ⟨xs, q2, x1, x2, hq2, rfl, rfl⟩
  simp
  refine loop_by (fun m E H => ∃ (i : Nat) (ys : List Deed), m = xs.length - i ∧ i ≤ xs.length ∧ ys.length ≤ i ∧ (∀ x ∈ ys, txtOk x = true) ∧ E = [(3, .ls 3 0 0 ys.length), (4, .ls 3 1 0 xs.length), (5, .v (.int .i64 i)), (31, .lp 0 2 0 0)] ∧
    H = [some (.arr 3 (dsA ys)), some (.arr 3 (dsA xs)), some (.box [.sl 0 1 (u8s bs), .v (.int .i64 q2)])]) xs.length ⟨0, [], by simp⟩ ?_
  rintro J hJ m E H ⟨i, ys, rfl, hi, hy, hys, rfl, rfl⟩
  by_cases h : i < xs.length
  · have dt := s_spec_DeedText xs[i]
    have hg := dsA_get' h
    have ap : dsA ys ++ [deedA xs[i]] = dsA (ys ++ [xs[i]]) := by simp [dsA]
    simp only [deedA] at dt ap
    cases ht : txtOk xs[i] with
    | true =>
      have hne := (deed_text ht).2
      have nx := hJ (xs.length - (i + 1)) [(3, .ls 3 0 0 (ys ++ [xs[i]]).length), (4, .ls 3 1 0 xs.length), (5, .v (.int .i64 ((i : Int) + 1))), (31, .lp 0 2 0 0)] _ ⟨i + 1, ys ++ [xs[i]], rfl, h, by simp; omega, by intro x hx; simp at hx; rcases hx with hx | rfl; exact hys x hx; exact ht, by simp, rfl⟩
      rw [List.length_append, List.length_singleton, ← ap] at nx
      generalize dText xs[i] = t at *
      simp [c_spec_l20Written_L0, h, hg, deedA]
      refine call_on dt ?_
      simp [hne, h, hg, deedA]
      exact ⟨by omega, by omega, _, by omega, nx⟩
    | false =>
      have nx := hJ (xs.length - (i + 1)) [(3, .ls 3 0 0 ys.length), (4, .ls 3 1 0 xs.length), (5, .v (.int .i64 ((i : Int) + 1))), (31, .lp 0 2 0 0)] _ ⟨i + 1, ys, rfl, h, by omega, hys, by simp, rfl⟩
      rw [(dText_nil xs[i]).2 ht] at dt
      simp [c_spec_l20Written_L0, h, hg, deedA]
      refine call_on dt ?_
      simp
      exact ⟨by omega, _, by omega, nx⟩
  · have : i = xs.length := by omega
    subst this
    have tk : (dsA ys).take ys.length = dsA ys := List.take_of_length_le (by simp)
    simp [c_spec_l20Written_L0]
    refine ⟨_, _, ⟨ys, q2, by omega, hys, by omega, rfl, rfl⟩, ?_⟩
    simp [tk]

def drawJT (r : AV) (ups : List AV) : Prop := ∃ xs : List Deed, xs.length ≤ 13 ∧ r = .os 3 (dsA xs) ∧ ups = [.bot]

theorem s_spec_DrawJournalText (bs : List Int) (hb : bs.length ≤ 2 ^ 60) (hB : Byt bs) : SoundSet Tryz.prog n_spec_DrawJournalText [.sl 0 1 (u8s bs)] drawJT := by
  have hB' := byt_take hB 2000
  have hb' : (bs.take 2000).length ≤ 2000 := by rw [List.length_take]; exact Nat.min_le_left _ _
  refine fn_okS (md := md11) (ms := [false]) k_spec_DrawJournalText (by simp) ?_
  simp [c_spec_DrawJournalText]
  refine call_on (s_spec_l20Open bs hb) ?_
  generalize bs.take 2000 = bt at *
  simp
  refine call_onK (s_spec_l20Written bt 0 hb' hB' (by omega)) [0] (by simp) (by simp) (by simp) ?_
  rintro _ _ ⟨xs, q, x1, x2, hq, rfl, rfl⟩
  simp
  refine call_onK (s_spec_l20Rd_odd bt q 12 hb' hB' (by omega) (by omega)) [0] (by simp) (by simp) (by simp) ?_
  rintro _ _ ⟨o, q2, rfl, hq2, rfl⟩
  cases o with
  | true =>
    have ap : dsA xs ++ [.agg [.v (.int .i64 9), .v (.int .i64 0), .v (.int .i64 0)]] = dsA (xs ++ [(9, 0, 0)]) := by simp [dsA, deedA]
    have tk : (dsA (xs ++ [(9, 0, 0)])).take (xs.length + 1) = dsA (xs ++ [(9, 0, 0)]) := List.take_of_length_le (by simp)
    simp [ap]
    refine ⟨by omega, ?_⟩
    refine ⟨_, _, ⟨xs ++ [(9, 0, 0)], by simp; omega, rfl, rfl⟩, ?_⟩
    simp [tk]
  | false =>
    have tk : (dsA xs).take xs.length = dsA xs := List.take_of_length_le (by simp)
    simp
    refine ⟨_, _, ⟨xs, by omega, rfl, rfl⟩, ?_⟩
    simp [tk]

theorem l_FnJournalText (bs : List Int) (hB : Byt bs) : SoundAt Tryz.prog n_laws_FnJournalText [.sl 0 1 (u8s bs)] (.v (.bool true)) [.bot] := by
  refine fn_ok (md := md11) (ms := [false]) k_laws_FnJournalText (by simp) ?_
  simp [c_laws_FnJournalText]
  refine fun hsz => ?_
  have hb : bs.length ≤ 2 ^ 60 := by omega
  refine call_onK (s_spec_DrawJournalText bs hb hB) [] (by simp) (by simp) (by simp) ?_
  rintro _ _ ⟨xs, x1, rfl, rfl⟩
  have one := s_impl_JournalText xs (by omega)
  have two := s_spec_JournalText xs (by omega)
  have tk : (dsA xs).take xs.length = dsA xs := List.take_of_length_le (by simp)
  have same := s_laws_sameDeeds xs xs (by omega)
  have jl := jl_len xs
  cases ha : xs.all txtOk with
  | false =>
    have e : jText xs = [] := by rw [jText, ha]; rfl
    rw [e] at one two
    simp
    refine call_on one ?_
    simp
    refine call_on two ?_
    simp
    refine call_on s_laws_alive ?_
    simp
  | true =>
    have e : jText xs = jTextL xs := by rw [jText, ha]; rfl
    have hf : ∀ ys : List Deed, jTextL ys = (ys.map fun d => dText d ++ [10]).flatten := by
      intro ys
      induction ys with
      | nil => rfl
      | cons d ys ih => simp [jTextL, ih]
    have rj := s_impl_ReadJournal (jTextL xs) (by omega)
    have jr := jr_text xs (jTextL xs) (fun d hd => List.all_eq_true.1 ha d hd) (hf xs)
    rw [jrA, jr] at rj
    rw [e] at one two
    generalize jTextL xs = t at *
    by_cases h0 : t = []
    · subst h0
      simp
      refine call_on one ?_
      simp
      refine call_on two ?_
      simp
      refine call_on s_laws_alive ?_
      simp
    · simp
      refine call_on one ?_
      simp
      refine call_on two ?_
      simp [h0]
      refine call_on rj ?_
      simp
      refine call_on same ?_
      simp

end Go.Proofs.Dev
