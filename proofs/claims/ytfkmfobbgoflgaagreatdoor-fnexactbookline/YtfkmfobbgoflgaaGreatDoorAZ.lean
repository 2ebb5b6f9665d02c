/- Contracts of the functions of the program over slots and rows, each proved against the program itself; no condition beyond those that each theorem names. -/
import Derived.Test.YtfkmfobbgoflgaaGreatDoorAY
import Derived.Test.YtfkmfobbgoflgaaGreatDoorAJ
import Derived.Test.YtfkmfobbgoflgaaGreatDoorAS
import Derived.Shelf.Strings.Builder1
import Derived.Shelf.Strings.Builder2
import Derived.Shelf.Strings.OnBuilder
import Derived.Test.YtfkmfobbgoflgaaGreatDoorProg
import Derived.Test.YtfkmfobbgoflgaaGreatDoorAI
set_option linter.unusedSimpArgs false
set_option linter.unusedVariables false
set_option maxRecDepth 100000
namespace Go.Proofs.Dev
open Go.RowKit
theorem cK {W x : Nat} (cs : List Bool) (ds : List Int) (y : Nat) (h : x < W) : (Lj W cs ds y).take (x + 1) = (Lj W cs ds y).take x ++ [sgC cs ds (y * W + x)] := by
 rw [List.take_succ_eq_append_getElem (by simp [h])]
 simp [Lj]
theorem d7 (W : Nat) (cs : List Bool) (ds : List Int) {n : Nat} (h : 0 < n) : Gn W cs ds n ≠ [] := by
 intro e
 have := congrArg List.length e
 simp at this
 omega
theorem VD (W : Nat) (cs : List Bool) (ds : List Int) {n : Nat} (h : 0 < n) : EZ 47 (Gn W cs ds (n + 1)) = Lj W cs ds n ++ 47 :: EZ 47 (Gn W cs ds n) := by
 rw [Gn, QT 47 _ (d7 W cs ds h)]
theorem Tn (W : Nat) (cs : List Bool) (ds : List Int) : EZ 47 (Gn W cs ds 1) = Lj W cs ds 0 := rfl
theorem WU {W : Nat} (cs : List Bool) (ds : List Int) : ∀ n : Nat, (EZ 47 (Gn W cs ds n)).length ≤ n * (W + 1)
 | 0 => by simp [Gn, EZ]
 | 1 => by rw [Tn]; simp
 | n + 2 => by
   rw [VD W cs ds (by omega)]
   have := WU cs ds (n + 1) (W := W)
   have e : (n + 2) * (W + 1) = (n + 1) * (W + 1) + (W + 1) := by rw [show n + 2 = n + 1 + 1 by omega, Nat.succ_mul]
   simp
   omega
abbrev ptE (o : List UInt8) (ds : List Int) (y : Int) : ES := [(1, .sl 1 1 (AB ds)), (2, .lp 0 0 0 0), (5, .v (tx o)), (6, .v (.int .i64 y))]
abbrev mT (o : List UInt8) (ds : List Int) (y x : Int) : ES := [(1, .sl 1 1 (AB ds)), (2, .lp 0 0 0 0), (5, .v (tx o)), (6, .v (.int .i64 y)), (7, .v (.int .i64 x))]
set_option maxHeartbeats 2000000 in
theorem mU (W T : Nat) (cs : List Bool) (ds : List Int) (o : List UInt8) (y : Nat) (hW : W ≤ 6) (hT : T ≤ 6) (hy : y < T) (hl : cs.length = T * W) (hd : Cd cs ds = true) (ho : o.length ≤ 100) (Qc : AExit → ES → AH → Prop)
  (hend : ∀ E, get E 1 = .sl 1 1 (AB ds) → get E 2 = .lp 0 0 0 0 → get E 5 = .v (tx (o ++ Lj W cs ds y)) → get E 6 = .v (.int .i64 y) → Qc (.exit 2) E [some (.box [.v (.int .i64 W), .v (.int .i64 T), .sl 1 1 (AC cs)])]) :
  D9 [(1, 1)] [1, 2, 5, 6, 7] (awp Tryz.prog mdT Bp) Qc (mT o ds y 0) [some (.box [.v (.int .i64 W), .v (.int .i64 T), .sl 1 1 (AC cs)])] := by
 refine AF (fun m E H => ∃ x : Nat, m = W - x ∧ x ≤ W ∧ E = mT (o ++ (Lj W cs ds y).take x) ds y x ∧ H = [some (.box [.v (.int .i64 W), .v (.int .i64 T), .sl 1 1 (AC cs)])]) W ⟨0, by simp⟩ ?_
 rintro J hJ m E H ⟨x, rfl, hx, rfl, rfl⟩
 by_cases h : x < W
 ·have h' : (x : Int) < (W : Int) := by omega
  have hc := Vh (T := T) hy h
  have hdd : ds.length = cs.length := by simp only [Cd, Bool.and_eq_true, decide_eq_true_eq] at hd; exact hd.1
  have hp : T * W ≤ 6 * 6 := Nat.mul_le_mul hT hW
  have e1 : (y : Int) * (W : Int) = ((y * W : Nat) : Int) := by simp
  have hk1 : (y * W + x : Int) < (cs.length : Int) := by rw [e1]; omega
  have hk2 : (y * W + x : Int) < (ds.length : Int) := by rw [e1]; omega
  have hk0 : (0 : Int) ≤ (y : Int) * (W : Int) := by rw [e1]; omega
  have hk3 : (y : Int) * (W : Int) ≤ 36 := by rw [e1]; omega
  have e2 : ((y : Int) * (W : Int) + (x : Int)) = ((y * W + x : Nat) : Int) := by rw [Int.natCast_add, e1]
  have tk := cK cs ds y h
  have hlt : ((Lj W cs ds y).take x).length = x := by simp; omega
  have nx := hJ (W - (x + 1)) (mT (o ++ (Lj W cs ds y).take (x + 1)) ds y ((x : Int) + 1)) _ ⟨x + 1, rfl, h, by simp, rfl⟩
  rw [tk, ← List.append_assoc] at nx
  generalize hr : o ++ (Lj W cs ds y).take x = r at *
  have hrl : r.length ≤ 106 := by rw [← hr]; simp; omega
  have hdg : Jo cs ds ((y : Int) * (W : Int) + (x : Int)) = true := by
   simp only [Cd, Bool.and_eq_true, decide_eq_true_eq, Cl] at hd
   rw [e2]
   exact hd.2 (y * W + x) (by omega)
  have es : sgC cs ds (y * W + x) = if atb cs ((y : Int) * (W : Int) + (x : Int)) then b8 (48 + ati ds ((y : Int) * (W : Int) + (x : Int))) else 46 := by rw [e2]; rfl
  rw [es] at nx
  unfold Jo at hdg
  cases hb : atb cs ((y : Int) * (W : Int) + (x : Int)) with
  | true =>
    rw [hb] at nx hdg
    simp at hdg nx
    have ln := Fg (ati ds ((y : Int) * (W : Int) + (x : Int))) (by omega) (by omega)
    rw [YZ (by omega)] at ln
    simp [Bp, h', hb, hk1, hk2]
    (repeat' first | omega | apply And.intro) <;>
    ·refine AA ln ?_
     simp
     (repeat' first | omega | apply And.intro) <;> exact ⟨_, by omega, nx⟩
  | false =>
    rw [hb] at nx
    simp at nx
    simp [Bp, h', hb, hk1, hk2]
    (repeat' first | omega | apply And.intro) <;> exact ⟨_, by omega, nx⟩
 ·have : x = W := by omega
  subst this
  simp [Bp]
  exact hend _ rfl rfl (by rw [List.take_of_length_le (by simp)]; rfl) rfl
set_option maxHeartbeats 2000000 in
theorem Q1 (W T : Nat) (cs : List Bool) (ds : List Int) (hb : cs.length < 2 ^ 40) (hd : ds.length < 2 ^ 40) (hT : T < 2 ^ 40) :
  SoundAt Tryz.prog KQ [.agg [.v (.int .i64 W), .v (.int .i64 T), .sl 1 1 (AC cs)], .sl 1 1 (AB ds)] (.v (tx (Sc W T cs ds))) [.bot, .bot] := by
 have pv := CN W T cs ds hb hd
 refine AE (md := mdT) (ms := [false, false]) Qz (by simp) ?_
 simp [KR]
 refine ⟨by omega, ?_⟩
 by_cases hv : (Az W T cs && Cd cs ds) = true
 ·rw [hv] at pv
  rw [Sc, if_pos hv]
  simp only [Int.toNat_natCast]
  simp only [Bool.and_eq_true] at hv
  obtain ⟨hr, hg⟩ := hv
  simp only [Az, decide_eq_true_eq] at hr
  obtain ⟨w1, w2, t1, t2, hl, _⟩ := hr
  have hl' : cs.length = T * W := by
   have : (cs.length : Int) = ((T * W : Nat) : Int) := by rw [hl, Int.natCast_mul, Int.mul_comm]
   exact Int.ofNat.inj this
  have tot := WU cs ds T (W := W)
  have hp : T * (W + 1) ≤ 6 * 7 := Nat.mul_le_mul (by omega) (by omega)
  refine AF (fun m E H => ∃ (n : Nat) (o : List UInt8), n = m ∧ n ≤ T ∧ o ++ EZ 47 (Gn W cs ds n) = EZ 47 (Gn W cs ds T) ∧ E = ptE o ds ((n : Int) - 1) ∧ H = [some (.box [.v (.int .i64 W), .v (.int .i64 T), .sl 1 1 (AC cs)])]) T ⟨T, [], by simp⟩ ?_
  rintro J hJ m E H ⟨n, o, rfl, hn, ho, rfl, rfl⟩
  cases n with
  | zero =>
    have ho' : o = EZ 47 (Gn W cs ds T) := by simpa [Gn, EZ] using ho
    subst ho'
    simp [Bq]
  | succ n =>
    have lo : o.length ≤ 42 := by have := congrArg List.length ho; rw [List.length_append] at this; omega
    have e1 : ((n + 1 : Nat) : Int) - 1 = (n : Int) := by omega
    rw [e1]
    have body := fun Qc hend => mU W T cs ds o n (by omega) (by omega) (by omega) hl' hg (by omega) Qc hend
    simp [Bq]
    refine AA pv ?_
    simp
    refine body _ ?_
    intro E g1 g2 g5 g6
    have lr : (o ++ Lj W cs ds n).length ≤ 48 := by simp; omega
    cases n with
    | zero =>
      have nx := hJ 0 (ptE (o ++ Lj W cs ds 0) ds (-1)) _ ⟨0, _, rfl, by omega, by rw [← ho, Tn]; simp [Gn, EZ], rfl, rfl⟩
      simp [g1, g2, g5, g6]
      exact ⟨_, by omega, nx⟩
    | succ n =>
      have nx := hJ (n + 1) (ptE (o ++ Lj W cs ds (n + 1) ++ [47]) ds (n : Int)) _ ⟨n + 1, o ++ Lj W cs ds (n + 1) ++ [47], rfl, by omega, by rw [← ho, VD W cs ds (by omega : 0 < n + 1)]; simp, by rw [show ((n + 1 : Nat) : Int) - 1 = (n : Int) by omega], rfl⟩
      have hpos : (0 : Int) < (n : Int) + 1 := by omega
      generalize o ++ Lj W cs ds (n + 1) = r at *
      simp [g1, g2, g5, g6, hpos]
      exact ⟨by omega, by omega, _, by omega, nx⟩
 ·have hv' : (Az W T cs && Cd cs ds) = false := by simpa using hv
  rw [Sc, if_neg hv]
  rw [hv'] at pv
  refine AF (fun m E H => m = 0 ∧ E = ptE [] ds ((T : Int) - 1) ∧ H = [some (.box [.v (.int .i64 W), .v (.int .i64 T), .sl 1 1 (AC cs)])]) 0 ⟨rfl, rfl, rfl⟩ ?_
  rintro J hJ m E H ⟨rfl, rfl, rfl⟩
  by_cases h0 : 1 ≤ T
  ·have h0' : (1 : Int) ≤ (T : Int) := by omega
   simp [Bq, h0', h0]
   refine AA pv ?_
   simp
  ·have h0' : ¬ (1 : Int) ≤ (T : Int) := by omega
   have : T = 0 := by omega
   subst this
   simp [Bq]
def d1 (c : UInt8) : Int := Z3 [c]
def full {α : Type} (d : α) (f : UInt8 → α) (W n : Nat) (rest : List UInt8) : List α := List.replicate (n * W) d ++ rest.map f
def part {α : Type} (d : α) (f : UInt8 → α) (W n x : Nat) (row rest : List UInt8) : List α := List.replicate (n * W) d ++ ((row.take x).map f ++ (List.replicate (W - x) d ++ rest.map f))
theorem Xf {α : Type} (d : α) (f : UInt8 → α) (W n : Nat) (row rest : List UInt8) : part d f W n 0 row rest = full d f W (n + 1) rest := by
 unfold part full
 rw [Nat.succ_mul, ← List.replicate_append_replicate, List.append_assoc]
 rfl
theorem ZL {α : Type} (d : α) (f : UInt8 → α) (W n : Nat) (row rest : List UInt8) (h : row.length = W) : part d f W n W row rest = full d f W n (row ++ rest) := by
 unfold part full
 rw [List.take_of_length_le (by omega)]
 simp
theorem To {α : Type} (d : α) (f : UInt8 → α) (W n x : Nat) (row rest : List UInt8) (h : row.length = W) (hx : x ≤ W) : (part d f W n x row rest).length = n * W + W + rest.length := by
 unfold part
 simp
 omega
theorem ZM {α : Type} (d : α) (f : UInt8 → α) (W n x : Nat) (row rest : List UInt8) (h : row.length = W) (hx : x < row.length) : (part d f W n x row rest).set (n * W + x) (f row[x]) = part d f W n (x + 1) row rest := by
 unfold part
 rw [List.set_append_right _ _ (by simp), List.length_replicate, show n * W + x - n * W = x by omega, List.set_append_right _ _ (by simp; omega)]
 have e : x - ((row.take x).map f).length = 0 := by simp; omega
 rw [e, show W - x = (W - (x + 1)) + 1 by omega, List.replicate_succ, List.take_succ_eq_append_getElem hx, List.map_append, List.append_assoc]
 rfl
def toI (c : UInt8) : Int := (c.toNat : Int)
theorem cL (xs : List Int) (i : Nat) (x : Int) : (u8s xs).set i (.v (.int .u8 x)) = u8s (xs.set i x) := by simp [u8s, List.map_set]
theorem cM (n : Nat) (x : Int) : List.replicate n (.v (.int .u8 x)) = u8s (List.replicate n x) := by simp [u8s]
end Go.Proofs.Dev
namespace Go.Proofs
open Go.Shelf
def Tryz.lays156_ren : Go.Shelf.Ren := ⟨fun | 156 => 226 | 165 => 257 | 166 => 46 | 169 => 47 | 240 => 104 | 241 => 278 | 276 => 158 | 277 => 287 | n => n, fun | 31 => 58 | 9 => 9 | 3 => 3 | 4 => 4 | 0 => 0 | 20 => 20 | 72 => 74 | 76 => 77 | 70 => 72 | 37 => 22 | 75 => 76 | 127 => 123 | 164 => 152 | 5 => 5 | 80 => 79 | n => n, fun | n => n⟩
theorem Tryz.lays156 : Go.Proofs.Lays.n156 Tryz.prog Tryz.lays156_ren := {
 mixed := by kernel_rfl
 f156 := Tryz.func226.trans (congrArg some (by kernel_rfl))
 f165 := Tryz.func257.trans (congrArg some (by kernel_rfl))
 f166 := Tryz.func46.trans (congrArg some (by kernel_rfl))
 f169 := Tryz.func47.trans (congrArg some (by kernel_rfl))
 f240 := Tryz.func104.trans (congrArg some (by kernel_rfl))
 f241 := Tryz.func278.trans (congrArg some (by kernel_rfl))
 f276 := Tryz.func158.trans (congrArg some (by kernel_rfl))
 f277 := Tryz.func287.trans (congrArg some (by kernel_rfl))
 t0 := Tryz.underlying0
 a0 := Tryz.isAgg0
 z0 := Tryz.sizeOf0
 v0 := Tryz.zeroValue0
 t3 := Tryz.underlying3
 a3 := Tryz.isAgg3
 z3 := Tryz.sizeOf3
 v3 := Tryz.zeroValue3
 t4 := Tryz.underlying4
 a4 := Tryz.isAgg4
 z4 := Tryz.sizeOf4
 v4 := Tryz.zeroValue4
 t9 := Tryz.underlying9
 a9 := Tryz.isAgg9
 z9 := Tryz.sizeOf9
 v9 := Tryz.zeroValue9
 t20 := Tryz.underlying20
 a20 := Tryz.isAgg20
 z20 := Tryz.sizeOf20
 v20 := Tryz.zeroValue20
 t31 := Tryz.underlying58
 a31 := Tryz.isAgg58
 z31 := Tryz.sizeOf58
 v31 := Tryz.zeroValue58
 t37 := Tryz.underlying22
 a37 := Tryz.isAgg22
 z37 := Tryz.sizeOf22
 v37 := Tryz.zeroValue22
 t70 := Tryz.underlying72
 a70 := Tryz.isAgg72
 z70 := Tryz.sizeOf72
 v70 := Tryz.zeroValue72
 t72 := Tryz.underlying74
 a72 := Tryz.isAgg74
 z72 := Tryz.sizeOf74
 v72 := Tryz.zeroValue74
 t75 := Tryz.underlying76
 a75 := Tryz.isAgg76
 z75 := Tryz.sizeOf76
 v75 := Tryz.zeroValue76
 t76 := Tryz.underlying77
 a76 := Tryz.isAgg77
 z76 := Tryz.sizeOf77
 v76 := Tryz.zeroValue77
 t127 := Tryz.underlying123
 a127 := Tryz.isAgg123
 z127 := Tryz.sizeOf123
 v127 := Tryz.zeroValue123
 t164 := Tryz.underlying152
 a164 := Tryz.isAgg152
 z164 := Tryz.sizeOf152
 v164 := Tryz.zeroValue152 }
theorem Tryz.Builder_Extra_156 : Builder.Extra Tryz.prog Tryz.lays156_ren := {
 sizeBuilder := by kernel_rfl
 liesBuilder := by kernel_rfl
 t5 := Tryz.underlying5
 a5 := Tryz.isAgg5
 z5 := Tryz.sizeOf5
 v5 := Tryz.zeroValue5
 infoByte := by kernel_rfl
 cellsByte := by kernel_rfl
 sizeByte := by kernel_rfl
 neB5 := by decide }
open Go.RowKit in
theorem Tryz.strings_Join_none (a : Option Addr) (c : Nat) (sep : ByteArray) (w : World) :
  Calls Tryz.prog 226 #[.slice a 0 c, .string sep] w fun e w' => e = .returned (.string ⟨#[]⟩) ∧ w' = w := Any.strings_Join_none Tryz.lays156 Tryz.Builder_Extra_156 a c sep w
open Go.RowKit in
theorem Tryz.strings_Join (bk o c : Nat) (xs : List ByteArray) (sep : ByteArray) (w : World) (hcells : ∀ (j : Nat) x, xs[j]? = some x → w.cell? ⟨bk, o + j, none⟩ = some (.string x)) (hbk : bk < w.heap.size) (hN : xs.length ≤ 140737488355328) (hcap : xs.length ≤ c) (hlen : (Lib.join (xs.map (·.data.toList)) sep.data.toList).length ≤ 140737488355328) :
  Calls Tryz.prog 226 #[.slice (some ⟨bk, o, none⟩) xs.length c, .string sep] w fun e w' => e = .returned (.string ⟨(Lib.join (xs.map (·.data.toList)) sep.data.toList).toArray⟩) ∧ Below w.heap.size w w' := Any.strings_Join Tryz.lays156 Tryz.Builder_Extra_156 bk o c xs sep w hcells hbk hN hcap hlen
end Go.Proofs
namespace Go.Proofs.Dev
open Go.RowKit
theorem cN (c : UInt8) : ∀ ls : List (List UInt8), Go.Lib.join ls [c] = EZ c ls
 | [] => rfl
 | [p] => by rw [Go.Lib.join_one]; rfl
 | p :: q :: ls => by
   have ih := cN c (q :: ls)
   rw [Go.Lib.join_cons] at ih ⊢
   rw [QT c p (by simp), ← ih]
   simp [Go.Lib.joinTail]
theorem kP {C : Ctx} {a b : AV} {S : List Nat} {us : List Value} (h : RL C [a, b] S us) : ∃ S1 S2 u v, S = S1 ++ S2 ∧ us = [u, v] ∧ R C a S1 u ∧ R C b S2 v := by
 rw [RL] at h
 obtain ⟨S1, S2, u, us', rfl, rfl, h1, h2⟩ := h
 rw [RL] at h2
 obtain ⟨S3, S4, v, us2, rfl, rfl, h3, h4⟩ := h2
 rw [RL] at h4
 obtain ⟨rfl, rfl⟩ := h4
 exact ⟨S1, S3, u, v, by simp, rfl, h1, h3⟩
theorem Xg {C : Ctx} : ∀ {ls : List (List UInt8)} {S : List Nat} {us : List Value}, RL C (txs ls) S us → us = ls.map tx
 | [], S, us, h => by
   have h' : RL C [] S us := h
   rw [RL] at h'
   exact h'.2
 | x :: xs, S, us, h => by
   have h' : RL C (.v (tx x) :: txs xs) S us := h
   rw [RL] at h'
   obtain ⟨S1, S2, u, us', rfl, rfl, h1, h2⟩ := h'
   rw [R] at h1
   rw [Xg h2, h1.2]
   rfl
theorem Nw (ls : List (List UInt8)) (c : UInt8) (hn : ls.length ≤ 1000) (hl : (EZ c ls).length ≤ 1000) : SoundAt Tryz.prog 226 [.sl 1 1 (txs ls), .v (tx [c])] (.v (tx (EZ c ls))) [.bot, .bot] := by
 intro w forb us S hr hnd hlt hforb
 obtain ⟨S1, S2, u, v, rfl, rfl, h1, h2⟩ := kP hr
 rw [R] at h2
 obtain ⟨rfl, rfl⟩ := h2
 rw [R] at h1
 obtain ⟨rfl, a, cap, rfl, hcap, h3⟩ := h1
 have fin : ∀ w', Kept w.heap.size [] w w' → ∃ v S', Ending.returned (Value.string ⟨(EZ c ls).toArray⟩) = .returned v ∧ RL (Wl w' S' forb) (.v (tx (EZ c ls)) :: [.bot, .bot]) S' (v :: [.slice a (txs ls).length cap, tx [c]]) ∧ S'.Nodup ∧ (∀ x ∈ S', x < w'.heap.size ∧ (w.heap.size ≤ x ∨ x ∈ ([] ++ [] : List Nat))) ∧ Kept w.heap.size ([] ++ []) w w' := by
  intro w' hk
  refine ⟨_, [], rfl, ?_, by simp, by simp, hk⟩
  rw [RL]; refine ⟨[], [], _, _, rfl, rfl, by rw [R]; exact ⟨rfl, rfl⟩, ?_⟩
  rw [RL]; refine ⟨[], [], _, _, rfl, rfl, by rw [R], ?_⟩
  rw [RL]; exact ⟨[], [], _, _, rfl, rfl, by rw [R], by rw [RL]; exact ⟨rfl, rfl⟩⟩
 by_cases h0 : ls = []
 ·subst h0
  refine (Tryz.strings_Join_none a cap ⟨[c].toArray⟩ w).mono ?_
  rintro e w' ⟨rfl, rfl⟩
  exact fin _ (Kept.refl _ _ _)
 ·rcases h3 with h3 | ⟨b, p, us, rfl, hb, _, hc, _, hrl⟩
  ·exact absurd (by simpa using h3) h0
  rw [Oi] at hrl
  have hus := Xg hrl
  subst hus
  have hx : (ls.map fun l => ByteArray.mk l.toArray).map (·.data.toList) = ls := by
   rw [List.map_map]
   conv => rhs; rw [← List.map_id ls]
   rfl
  have hjn : Go.Lib.join ((ls.map fun l => ByteArray.mk l.toArray).map (·.data.toList)) (ByteArray.mk [c].toArray).data.toList = EZ c ls := by rw [hx]; exact cN c ls
  have := Tryz.strings_Join b p cap (ls.map fun l => ByteArray.mk l.toArray) ⟨[c].toArray⟩ w (fun j x hj => by
   simp only [List.getElem?_map, Option.map_eq_some_iff] at hj
   obtain ⟨l, hl, rfl⟩ := hj
   exact hc j (tx l) (by simp [hl])) hb (by simp; omega) (by simp at hcap ⊢; exact hcap) (by rw [hjn]; omega)
  rw [hjn, List.length_map] at this
  simp only [Ms]
  refine this.mono ?_
  rintro e w' ⟨rfl, hbl⟩
  have := fin w' (HB _ hbl)
  simpa using this
theorem Zy (ds : List Int) (k : Int) (h0 : 0 ≤ k) (h1 : k < ds.length) (h2 : -1 ≤ ati ds k) (h3 : ati ds k ≤ 6) :
  SoundAt Tryz.prog 182 [.v (.int .i64 k), .vp 1 [.sl 1 1 (AB ds)] 0] (.v (.int .u8 (if ati ds k < 0 then 46 else 48 + ati ds k))) [.bot, .bot] := by
 refine AE (md := mdT) (ms := [false, false]) OP (by simp) ?_
 by_cases h : ati ds k < 0
 ·simp [Eu, h0, h1, h]
 ·simp [Eu, h0, h1, h]
  omega
abbrev rtE (ds : List Int) (k : Nat) (y : Int) : ES := [(1, .fn 182 [.vp 1 [.sl 1 1 (AB ds)] 0]), (2, .lp 0 0 0 0), (5, .ls 1 1 0 k), (6, .v (.int .i64 y))]
theorem fR (l : List UInt8) : (l.map toI).map (fun n => UInt8.ofNat n.toNat) = l := by
 rw [List.map_map]
 conv => rhs; rw [← List.map_id l]
 apply List.map_congr_left
 intro c _
 show UInt8.ofNat (toI c).toNat = c
 apply UInt8.toNat_inj.1
 have := c.toNat_lt
 simp [toI]
abbrev mV (W : Nat) (ds : List Int) (k : Nat) (y x : Int) : ES := [(1, .fn 182 [.vp 1 [.sl 1 1 (AB ds)] 0]), (2, .lp 0 0 0 0), (5, .ls 1 1 0 k), (6, .v (.int .i64 y)), (7, .ls 1 2 0 W), (20, .v (.int .i64 W)), (21, .v (.int .i64 x))]
set_option maxHeartbeats 2000000 in
theorem mW (W T : Nat) (cs : List Bool) (ds : List Int) (rs : List (List UInt8)) (y : Nat) (hW : W ≤ 6) (hT : T ≤ 6) (hy : y < T) (hl : cs.length = T * W) (hd : Cd cs ds = true) (Qc : AExit → ES → AH → Prop)
  (hend : ∀ E, get E 1 = .fn 182 [.vp 1 [.sl 1 1 (AB ds)] 0] → get E 2 = .lp 0 0 0 0 → get E 5 = .ls 1 1 0 rs.length → get E 6 = .v (.int .i64 y) → get E 7 = .ls 1 2 0 W →
   Qc (.exit 2) E [some (.box [.v (.int .i64 W), .v (.int .i64 T), .sl 1 1 (AC cs)]), some (.arr 1 (txs rs)), some (.arr 1 (u8s ((Lj W cs ds y).map toI)))]) :
  D9 [(5, 1), (7, 1)] [1, 2, 5, 6, 7, 20, 21] (awp Tryz.prog mdT AY) Qc (mV W ds rs.length y 0) [some (.box [.v (.int .i64 W), .v (.int .i64 T), .sl 1 1 (AC cs)]), some (.arr 1 (txs rs)), some (.arr 1 (List.replicate W (.v (.int .u8 0))))] := by
 rw [cM]
 refine AF (fun m E H => ∃ x : Nat, m = W - x ∧ x ≤ W ∧ E = mV W ds rs.length y x ∧ H = [some (.box [.v (.int .i64 W), .v (.int .i64 T), .sl 1 1 (AC cs)]), some (.arr 1 (txs rs)), some (.arr 1 (u8s (part 0 toI W 0 x (Lj W cs ds y) [])))]) W ⟨0, by simp [Xf, full]⟩ ?_
 rintro J hJ m E H ⟨x, rfl, hx, rfl, rfl⟩
 by_cases h : x < W
 ·have h' : (x : Int) < (W : Int) := by omega
  have hxr : x < (Lj W cs ds y).length := by simp [h]
  have hc := Vh (T := T) hy h
  have hdd : ds.length = cs.length := by simp only [Cd, Bool.and_eq_true, decide_eq_true_eq] at hd; exact hd.1
  have hp : T * W ≤ 6 * 6 := Nat.mul_le_mul hT hW
  have e1 : (y : Int) * (W : Int) = ((y * W : Nat) : Int) := by simp
  have q0 : (0 : Int) ≤ (y : Int) * (W : Int) := by rw [e1]; omega
  have q1 : (y : Int) * (W : Int) ≤ 36 := by rw [e1]; omega
  have q2 : ((y : Int) * (W : Int) + (x : Int)) < (ds.length : Int) := by rw [e1]; omega
  have e2 : ((y : Int) * (W : Int) + (x : Int)) = ((y * W + x : Nat) : Int) := by rw [Int.natCast_add, e1]
  have hdg : Jo cs ds ((y : Int) * (W : Int) + (x : Int)) = true := by
   simp only [Cd, Bool.and_eq_true, decide_eq_true_eq, Cl] at hd
   rw [e2]
   exact hd.2 (y * W + x) (by omega)
  have es : (if ati ds ((y : Int) * (W : Int) + (x : Int)) < 0 then (46 : Int) else 48 + ati ds ((y : Int) * (W : Int) + (x : Int))) = toI (Lj W cs ds y)[x] := by
   have e3 : (Lj W cs ds y)[x] = if atb cs ((y : Int) * (W : Int) + (x : Int)) then b8 (48 + ati ds ((y : Int) * (W : Int) + (x : Int))) else 46 := by
    rw [e2]; simp only [Lj, List.getElem_map, List.getElem_range]; rfl
   rw [e3]
   unfold Jo at hdg
   cases hb : atb cs ((y : Int) * (W : Int) + (x : Int)) with
   | true =>
     rw [hb] at hdg
     simp at hdg
     rw [if_neg (by omega), if_pos rfl, toI, dX (by omega) (by omega)]
     omega
   | false =>
     rw [hb] at hdg
     simp at hdg
     rw [hdg]
     rfl
  have sg := Zy ds ((y : Int) * (W : Int) + (x : Int)) (by omega) q2 (by
   unfold Jo at hdg
   split at hdg <;> simp at hdg <;> omega) (by
   unfold Jo at hdg
   split at hdg <;> simp at hdg <;> omega)
  rw [es] at sg
  have st := ZM (0 : Int) toI W 0 x (Lj W cs ds y) [] (by simp) hxr
  have l1 := To (0 : Int) toI W 0 x (Lj W cs ds y) [] (by simp) hx
  simp only [Nat.zero_mul, Nat.zero_add, List.length_nil, Nat.add_zero] at st l1
  have nx := hJ (W - (x + 1)) (mV W ds rs.length y ((x : Int) + 1)) _ ⟨x + 1, rfl, h, by simp, rfl⟩
  rw [← st] at nx
  generalize part 0 toI W 0 x (Lj W cs ds y) [] = X at *
  generalize toI (Lj W cs ds y)[x] = z at *
  have hX : x < X.length := by omega
  have qf : aN Tryz.prog 182 = true := by kernel_rfl
  simp [AY, h', hX, qf, h]
  refine ⟨by omega, by omega, ?_⟩
  refine AA sg ?_
  simp [cL, hX, h]
  exact ⟨by omega, _, by omega, nx⟩
 ·have : x = W := by omega
  subst this
  rw [ZL _ _ _ _ _ _ (by simp)]
  simp [AY, full]
  apply hend <;> rfl
set_option maxHeartbeats 2000000 in
theorem Tp (W T : Nat) (cs : List Bool) (ds : List Int) (hr : Az W T cs = true) (hg : Cd cs ds = true) :
  SoundAt Tryz.prog DY [.agg [.v (.int .i64 W), .v (.int .i64 T), .sl 1 1 (AC cs)], .fn 182 [.vp 1 [.sl 1 1 (AB ds)] 0]] (.v (tx (EZ 47 (Gn W cs ds T)))) [.bot, .bot] := by
 refine AE (md := mdT) (ms := [false, false]) F1 (by simp) ?_
 have hr' := hr
 simp only [Az, decide_eq_true_eq] at hr'
 obtain ⟨w1, w2, t1, t2, hl, _⟩ := hr'
 have hW6 : W ≤ 6 := by omega
 have hT6 : T ≤ 6 := by omega
 have hl' : cs.length = T * W := by
  have : (cs.length : Int) = ((T * W : Nat) : Int) := by rw [hl, Int.natCast_mul, Int.mul_comm]
  exact Int.ofNat.inj this
 have tot := WU cs ds T (W := W)
 have hp : T * (W + 1) ≤ 6 * 7 := Nat.mul_le_mul hT6 (by omega)
 have jn := Nw (Gn W cs ds T) 47 (by simp; omega) (by omega)
 simp [DZ]
 refine ⟨by omega, ?_⟩
 refine AF (fun m E H => ∃ (n : Nat) (rs : List (List UInt8)), n = m ∧ n ≤ T ∧ rs ++ Gn W cs ds n = Gn W cs ds T ∧ E = rtE ds rs.length ((n : Int) - 1) ∧
  H = [some (.box [.v (.int .i64 W), .v (.int .i64 T), .sl 1 1 (AC cs)]), some (.arr 1 (txs rs))]) T ⟨T, [], by simp⟩ ?_
 rintro J hJ m E H ⟨n, rs, rfl, hn, ho, rfl, rfl⟩
 cases n with
 | zero =>
   have ho' : rs = Gn W cs ds T := by simpa [Gn] using ho
   subst ho'
   rw [Ii]
   have tk : List.take T (txs (Gn W cs ds T)) = txs (Gn W cs ds T) := List.take_of_length_le (by simp)
   simp [Ax]
   refine AA jn ?_
   simp [tk]
 | succ n =>
   have la : rs.length ≤ 6 := by have := congrArg List.length ho; rw [List.length_append, Ii, Ii] at this; omega
   have e1 : ((n + 1 : Nat) : Int) - 1 = (n : Int) := by omega
   have w0 : (0 : Int) ≤ (W : Int) := by omega
   rw [e1]
   have nx := hJ n (rtE ds (rs ++ [Lj W cs ds n]).length ((n : Int) - 1)) _ ⟨n, rs ++ [Lj W cs ds n], rfl, by omega, by rw [← ho, Gn]; simp, rfl, rfl⟩
   rw [Mt, X5, List.length_append, List.length_singleton] at nx
   have body := mW W T cs ds rs n hW6 hT6 (by omega) hl' hg
   simp [Ax, w0]
   refine ⟨by omega, ?_⟩
   refine body _ ?_
   intro E g1 g2 g5 g6 g7
   have tk : List.take W (u8s ((Lj W cs ds n).map toI)) = u8s ((Lj W cs ds n).map toI) := List.take_of_length_le (by simp)
   have hst := fR (Lj W cs ds n)
   have hrw : W ≤ (Lj W cs ds n).length := by simp
   generalize Lj W cs ds n = row at *
   rw [List.map_map] at hst
   simp [g1, g2, g5, g6, g7, tk, hst, hrw, eG]
   exact ⟨by omega, by omega, _, by omega, nx⟩
theorem Q2 (W T : Nat) (cs : List Bool) (ds : List Int) (hb : cs.length < 2 ^ 40) (hd : ds.length < 2 ^ 40) :
  SoundAt Tryz.prog KS [.agg [.v (.int .i64 W), .v (.int .i64 T), .sl 1 1 (AC cs)], .sl 1 1 (AB ds)] (.v (tx (Sc W T cs ds))) [.bot, .bot] := by
 have pv := Iz W T cs ds hb hd
 refine AE (md := mdT) (ms := [false, false]) Q0 (by simp) ?_
 by_cases hv : (Az W T cs && Cd cs ds) = true
 ·rw [Sc, if_pos hv]
  rw [hv] at pv
  simp only [Bool.and_eq_true] at hv
  have rt := Tp W T cs ds hv.1 hv.2
  simp [GM]
  refine AA pv ?_
  simp
  refine AA rt ?_
  simp
 ·have hv' : (Az W T cs && Cd cs ds) = false := by simpa using hv
  rw [Sc, if_neg hv]
  rw [hv'] at pv
  simp [GM]
  refine AA pv ?_
  simp
@[simp] abbrev IU : Nat := 76
def Cc : ACode := .seq (.seq (.reg [.m 21 7, .f 22 0 2, .l 23 22, .o 24 (.bin .lss 0) [.t 21, .t 23]]) <| .cond (.t 24) ( .skip) ( .exit 2)) <| .seq (.block 3 ( .seq (.reg [.m 27 6, .f 28 0 2, .l 29 28, .o 30 (.bin .mul 0) [.t 27, .t 29], .m 31 7, .o 32 (.bin .add 0) [.t 30, .t 31], .m 8 32]) <| .seq (.reg [.f 33 2 2, .l 34 33, .m 35 8, .o 36 (.iadr 1) [.t 34, .t 35], .l 37 36]) <| .cond (.t 37) ( .reg [.m 38 5, .o 39 (.bsl 1) [.c (.v (.string ⟨#[35]⟩)), .c (.v (.string ⟨#[101]⟩)), .c (.v (.string ⟨#[110]⟩)), .c (.v (.string ⟨#[119]⟩)), .c (.v (.string ⟨#[115]⟩))], .m 40 1, .m 41 8, .o 42 (.iadr 1) [.t 40, .t 41], .l 43 42, .o 44 (.iadr 1) [.t 39, .t 43], .l 45 44, .o 46 (.bin .add 1) [.t 38, .t 45], .m 5 46]) ( .reg [.m 47 5, .o 48 (.bin .add 1) [.t 47, .c (.v (.string ⟨#[46]⟩))], .m 5 48]))) <| .reg [.m 25 7, .o 26 (.bin .add 0) [.t 25, .k 1], .m 7 26]
def Fi : ACode := .seq (.seq (.reg [.m 12 6, .o 13 (.bin .geq 0) [.t 12, .k 0], .m 14 13, .g 15 (.load true 3) [.t 2] 14 true, .mg 16 1 14 true, .g 17 (.call 122 []) [.t 15, .t 16] 14 true, .o 18 .pick [.t 14, .t 17, .kb false]]) <| .cond (.t 18) ( .skip) ( .exit 0)) <| .seq (.block 1 ( .seq (.seq (.reg [.o 7 .mv [.k 0]]) <| .block 2 ( .loop [(1, 1)] [1, 2, 5, 6, 7] Cc)) <| .seq (.reg [.m 49 6, .o 50 (.bin .gtr 0) [.t 49, .k 0]]) <| .cond (.t 50) ( .reg [.m 51 5, .o 52 (.bin .add 1) [.t 51, .c (.v (.string ⟨#[47]⟩))], .m 5 52]) ( .skip))) <| .reg [.m 19 6, .o 20 (.bin .sub 0) [.t 19, .k 1], .m 6 20]
def Mn : ACode := .seq (.reg [.o 2 .box [.t 0], .o 4 .mv [.c (.v (.string ⟨#[]⟩))]]) <| .seq (.reg [.o 5 .mv [.c (.v (.string ⟨#[]⟩))]]) <| .seq (.seq (.reg [.f 9 1 2, .l 10 9, .o 11 (.bin .sub 0) [.t 10, .k 1], .m 6 11]) <| .block 0 ( .loop [(1, 1)] [1, 2, 5, 6] Fi)) <| .seq (.reg [.m 53 5, .m 4 53]) <| .ret
theorem Tq : cFn Tryz.prog IU 54 [.t 4] Mn := ⟨Tryz.f76, _, Tryz.func76, rfl, by kernel_rfl, by kernel_rfl, by kernel_rfl, by kernel_rfl⟩
@[simp] abbrev KT : Nat := 181
def GN : ACode := .seq (.reg [.o 4 .mv [.c (.v (.int .u8 (0)))]]) <| .seq (.seq (.reg [.f 5 2 1, .l 6 5, .m 7 0, .o 8 (.iadr 1) [.t 6, .t 7], .l 9 8, .o 10 (.un .not) [.t 9]]) <| .cond (.t 10) ( .seq (.reg [.o 4 .mv [.c (.v (.int .u8 (46)))]]) <| .ret) ( .skip)) <| .seq (.reg [.l 11 2, .m 12 0, .o 13 (.iadr 1) [.t 11, .t 12], .l 14 13, .o 15 .sidx [.c (.v (.string ⟨#[35, 101, 110, 119, 115]⟩)), .t 14], .m 4 15]) <| .ret
theorem Q3 : cFn Tryz.prog KT 16 [.t 4] GN := ⟨Tryz.f181, _, Tryz.func181, rfl, by kernel_rfl, by kernel_rfl, by kernel_rfl, by kernel_rfl⟩
@[simp] abbrev Mo : Nat := 128
def Mp : ACode := .seq (.reg [.o 2 .box [.t 0], .o 3 .box [.t 1], .o 4 .mv [.c (.v (.string ⟨#[]⟩))]]) <| .seq (.seq (.reg [.la 5 3 2, .l 6 3, .o 7 (.call 179 []) [.t 5, .t 6], .o 8 (.un .not) [.t 7]]) <| .cond (.t 8) ( .seq (.reg [.o 4 .mv [.c (.v (.string ⟨#[]⟩))]]) <| .ret) ( .skip)) <| .seq (.reg [.la 9 3 2, .o 10 (.mkfn 181) [.t 2, .t 3], .o 11 (.call 180 []) [.t 9, .t 10], .m 4 11]) <| .ret
theorem Tr : cFn Tryz.prog Mo 12 [.t 4] Mp := ⟨Tryz.f128, _, Tryz.func128, rfl, by kernel_rfl, by kernel_rfl, by kernel_rfl, by kernel_rfl⟩
@[simp] abbrev VE : Nat := 131
def VF : ACode := .seq (.reg [.o 2 .mv [.c (.v (.string ⟨#[]⟩))]]) <| .seq (.seq (.reg [.m 3 0]) <| .cond (.t 3) ( .seq (.reg [.o 2 .mv [.c (.v (.string ⟨#[121, 101, 115]⟩))]]) <| .ret) ( .skip)) <| .seq (.reg [.o 2 .mv [.c (.v (.string ⟨#[110, 111]⟩))]]) <| .ret
theorem Zz : cFn Tryz.prog VE 4 [.t 2] VF := ⟨Tryz.f131, _, Tryz.func131, rfl, by kernel_rfl, by kernel_rfl, by kernel_rfl, by kernel_rfl⟩
@[simp] abbrev Nx : Nat := 74
def Ny : ACode := .seq (.reg [.o 4 .mv [.c (.v (.string ⟨#[]⟩))]]) <| .seq (.seq (.reg [.m 5 0]) <| .cond (.t 5) ( .seq (.reg [.m 6 1, .m 4 6]) <| .ret) ( .skip)) <| .seq (.reg [.o 4 .mv [.c (.v (.string ⟨#[110, 111]⟩))]]) <| .ret
theorem Uo : cFn Tryz.prog Nx 7 [.t 4] Ny := ⟨Tryz.f74, _, Tryz.func74, rfl, by kernel_rfl, by kernel_rfl, by kernel_rfl, by kernel_rfl⟩
@[simp] abbrev Ac : Nat := 61
def DJ : ACode := .seq (.reg [.o 29 (.bin .lss 0) [.t 28, .t 27]]) <| .seq (.cond (.t 29) ( .skip) ( .exit 1)) <| .seq (.block 2 ( .seq (.reg [.o 30 (.iadr 3) [.t 26, .t 28], .la 31 3 30, .o 9 (.alloc dz) [], .s (.store 3) [.t 9, .t 31]]) <| .reg [.m 32 0, .la 33 3 9, .o 34 (.call 65 []) [.t 32, .t 33]])) <| .reg [.o 35 (.bin .add 0) [.t 28, .k 1], .m 28 35]
abbrev BS : Plan := .al (.o 117 (.call 133 []) [.t 108, .t 112, .t 116]) ( .take (.m 104 117) <| .take (.e 118 0 104) <| .take (.e 119 1 104) <| .take (.m 10 118) <| .take (.m 11 119) <| .done)
abbrev BT : Plan := .al (.o 100 (.call 132 []) [.t 91, .t 95, .t 99]) ( .al (.o 101 (.call 131 []) [.t 100]) ( .take (.m 4 101) <| .done))
abbrev IV : Plan := .al (.o 84 (.call 101 []) [.t 79, .t 83]) ( .al (.o 85 (.call 131 []) [.t 84]) ( .take (.m 4 85) <| .done))
abbrev IW : Plan := .al (.o 49 (.call 128 []) [.t 44, .t 48]) ( .take (.m 4 49) <| .done)
abbrev IX : Plan := .al (.o 60 (.call 129 []) [.t 55, .t 59]) ( .take (.m 4 60) <| .done)
def Aj : ACode := .seq (.reg [.o 4 .mv [.c (.v (.string ⟨#[]⟩))]]) <| .seq (.seq (.reg [.m 13 1, .o 14 (.call 52 []) [.t 13], .m 12 14, .e 15 0 12, .e 16 1 12, .o 5 (.alloc dz) [], .s (.store 3) [.t 5, .t 15], .m 6 16]) <| .seq (.reg [.m 17 6]) <| .cond (.t 17) ( .seq (.seq (.reg [.m 18 0, .la 19 3 5, .o 20 (.call 65 []) [.t 18, .t 19]]) <| .cond (.t 20) ( .seq (.reg [.o 4 .mv [.c (.v (.string ⟨#[111, 107]⟩))]]) <| .ret) ( .skip)) <| .seq (.reg [.o 4 .mv [.c (.v (.string ⟨#[110, 111]⟩))]]) <| .ret) ( .skip)) <| .seq (.seq (.reg [.m 21 1]) <| .block 0 ( .seq (.reg [.o 23 (.bin .eql 1) [.t 21, .c (.v (.string ⟨#[101, 110, 100]⟩))], .m 22 23]) <| .cond (.t 22) ( .seq (.reg [.m 24 0, .o 25 (.call 127 []) [.t 24], .m 7 25]) <| .seq (.seq (.reg [.m 26 7, .n 27 26, .o 28 .mv [.k 0]]) <| .block 1 ( .loop [(7, 3), (26, 3)] [0, 7, 26, 27, 28, 126] DJ)) <| .seq (.seq (.reg [.m 36 7, .n 37 36, .o 38 (.bin .eql 0) [.t 37, .k 0]]) <| .cond (.t 38) ( .seq (.reg [.o 4 .mv [.c (.v (.string ⟨#[110, 111, 110, 101]⟩))]]) <| .ret) ( .skip)) <| .seq (.reg [.o 4 .mv [.c (.v (.string ⟨#[111, 107]⟩))]]) <| .ret) ( .seq (.reg [.o 40 (.bin .eql 1) [.t 21, .c (.v (.string ⟨#[115, 104, 111, 119]⟩))], .m 39 40]) <| .cond (.t 39) ( .seq (.draw ( .take (.m 41 0) <| .take (.o 42 .nilck [.t 41]) <| .take (.f 43 0 42) <| .take (.m 45 0) <| .take (.o 46 .nilck [.t 45]) <| .take (.f 47 4 46) <| .alt (.la 44 3 43) ( .al (.l 48 47) IW) <| .al (.l 48 47) ( .al (.la 44 3 43) IW))) <| .ret) ( .seq (.reg [.o 51 (.bin .eql 1) [.t 21, .c (.v (.string ⟨#[100, 105, 103, 105, 116, 115]⟩))], .m 50 51]) <| .cond (.t 50) ( .seq (.draw ( .take (.m 52 0) <| .take (.o 53 .nilck [.t 52]) <| .take (.f 54 0 53) <| .take (.m 56 0) <| .take (.o 57 .nilck [.t 56]) <| .take (.f 58 3 57) <| .alt (.la 55 3 54) ( .al (.l 59 58) IX) <| .al (.l 59 58) ( .al (.la 55 3 54) IX))) <| .ret) ( .seq (.reg [.o 62 (.bin .eql 1) [.t 21, .c (.v (.string ⟨#[108, 101, 102, 116]⟩))], .m 61 62]) <| .cond (.t 61) ( .seq (.reg [.m 63 0, .o 64 (.call 130 []) [.t 63], .o 65 (.call 64 []) [.t 64], .m 4 65]) <| .ret) ( .seq (.reg [.o 67 (.bin .eql 1) [.t 21, .c (.v (.string ⟨#[112, 97, 115, 116]⟩))], .m 66 67]) <| .cond (.t 66) ( .seq (.reg [.m 68 0, .o 69 .nilck [.t 68], .f 70 5 69, .l 71 70, .n 72 71, .o 73 (.call 64 []) [.t 72], .m 4 73]) <| .ret) ( .seq (.reg [.o 75 (.bin .eql 1) [.t 21, .c (.v (.string ⟨#[115, 111, 108, 118, 101, 100]⟩))], .m 74 75]) <| .cond (.t 74) ( .seq (.draw ( .take (.m 76 0) <| .take (.o 77 .nilck [.t 76]) <| .take (.f 78 0 77) <| .take (.m 80 0) <| .take (.o 81 .nilck [.t 80]) <| .take (.f 82 4 81) <| .alt (.la 79 3 78) ( .al (.l 83 82) IV) <| .al (.l 83 82) ( .al (.la 79 3 78) IV))) <| .ret) ( .seq (.reg [.o 87 (.bin .eql 1) [.t 21, .c (.v (.string ⟨#[100, 101, 97, 100]⟩))], .m 86 87]) <| .cond (.t 86) ( .seq (.draw ( .take (.m 88 0) <| .take (.o 89 .nilck [.t 88]) <| .take (.f 90 0 89) <| .take (.m 92 0) <| .take (.o 93 .nilck [.t 92]) <| .take (.f 94 3 93) <| .take (.m 96 0) <| .take (.o 97 .nilck [.t 96]) <| .take (.f 98 4 97) <| .alt (.la 91 3 90) ( .alt (.l 95 94) ( .al (.l 99 98) BT) <| .al (.l 99 98) ( .al (.l 95 94) BT)) <| .alt (.l 95 94) ( .alt (.la 91 3 90) ( .al (.l 99 98) BT) <| .al (.l 99 98) ( .al (.la 91 3 90) BT)) <| .al (.l 99 98) ( .alt (.la 91 3 90) ( .al (.l 95 94) BT) <| .al (.l 95 94) ( .al (.la 91 3 90) BT)))) <| .ret) ( .seq (.reg [.o 103 (.bin .eql 1) [.t 21, .c (.v (.string ⟨#[104, 105, 110, 116]⟩))], .m 102 103]) <| .cond (.t 102) ( .seq (.draw ( .take (.m 105 0) <| .take (.o 106 .nilck [.t 105]) <| .take (.f 107 0 106) <| .take (.m 109 0) <| .take (.o 110 .nilck [.t 109]) <| .take (.f 111 3 110) <| .take (.m 113 0) <| .take (.o 114 .nilck [.t 113]) <| .take (.f 115 4 114) <| .alt (.la 108 3 107) ( .alt (.l 112 111) ( .al (.l 116 115) BS) <| .al (.l 116 115) ( .al (.l 112 111) BS)) <| .alt (.l 112 111) ( .alt (.la 108 3 107) ( .al (.l 116 115) BS) <| .al (.l 116 115) ( .al (.la 108 3 107) BS)) <| .al (.l 116 115) ( .alt (.la 108 3 107) ( .al (.l 112 111) BS) <| .al (.l 112 111) ( .al (.la 108 3 107) BS)))) <| .seq (.seq (.reg [.m 120 10, .o 121 (.bin .lss 0) [.t 120, .k 0]]) <| .cond (.t 121) ( .seq (.reg [.o 4 .mv [.c (.v (.string ⟨#[110, 111, 110, 101]⟩))]]) <| .ret) ( .skip)) <| .seq (.reg [.m 122 10, .m 123 11, .o 124 (.build dz [(0, 1), (1, 1), (2, 1)]) [.k 0, .t 122, .t 123], .o 125 (.call 20 []) [.t 124], .m 4 125]) <| .ret) ( .skip)))))))))) <| .seq (.reg [.o 4 .mv [.c (.v (.string ⟨#[119, 104, 97, 116]⟩))]]) <| .ret
theorem Am : cFn Tryz.prog Ac 126 [.t 4] Aj := ⟨Tryz.f61, _, Tryz.func61, rfl, by kernel_rfl, by kernel_rfl, by kernel_rfl, by kernel_rfl⟩
@[simp] abbrev IY : Nat := 19
def IZ : ACode := .seq (.reg [.o 2 .box [.t 0], .o 4 (.alloc bz) [], .o 5 .mv [.c (.v (.string ⟨#[]⟩))]]) <| .seq (.seq (.reg [.la 8 6 2, .o 9 (.call 38 []) [.t 8], .o 10 (.un .not) [.t 9]]) <| .cond (.t 10) ( .seq (.reg [.o 11 (.build bz []) [], .s (.store 6) [.t 4, .t 11], .o 5 .mv [.c (.v (.string ⟨#[]⟩))]]) <| .ret) ( .skip)) <| .seq (.reg [.la 12 6 2, .o 13 (.call 60 []) [.t 12], .o 6 (.alloc bz) [], .s (.store 6) [.t 6, .t 13]]) <| .seq (.reg [.m 14 1, .o 15 (.call 61 []) [.t 6, .t 14], .m 7 15]) <| .seq (.reg [.la 16 6 6, .m 17 7, .s (.store 6) [.t 4, .t 16], .m 5 17]) <| .ret
theorem Ts : cFn Tryz.prog IY 18 [.c 4 true 6, .t 5] IZ := ⟨Tryz.f19, _, Tryz.func19, rfl, by kernel_rfl, by kernel_rfl, by kernel_rfl, by kernel_rfl⟩
abbrev ltE (o : List UInt8) (ls : List Int) (y : Int) : ES := [(1, .sl 1 1 (AB ls)), (2, .lp 0 0 0 0), (5, .v (tx o)), (6, .v (.int .i64 y))]
abbrev mX (o : List UInt8) (ls : List Int) (y x : Int) : ES := [(1, .sl 1 1 (AB ls)), (2, .lp 0 0 0 0), (5, .v (tx o)), (6, .v (.int .i64 y)), (7, .v (.int .i64 x))]
set_option maxHeartbeats 2000000 in
theorem mY (W T : Nat) (cs : List Bool) (ls : List Int) (o : List UInt8) (y : Nat) (hW : W ≤ 6) (hT : T ≤ 6) (hy : y < T) (hl : cs.length = T * W) (hd : ls.length = cs.length) (hw : XG ls) (ho : o.length ≤ 100) (Qc : AExit → ES → AH → Prop)
  (hend : ∀ E, get E 1 = .sl 1 1 (AB ls) → get E 2 = .lp 0 0 0 0 → get E 5 = .v (tx (o ++ Mv (sgW cs ls) W y)) → get E 6 = .v (.int .i64 y) → Qc (.exit 2) E [some (.box [.v (.int .i64 W), .v (.int .i64 T), .sl 1 1 (AC cs)])]) :
  D9 [(1, 1)] [1, 2, 5, 6, 7] (awp Tryz.prog mdT Cc) Qc (mX o ls y 0) [some (.box [.v (.int .i64 W), .v (.int .i64 T), .sl 1 1 (AC cs)])] := by
 refine AF (fun m E H => ∃ x : Nat, m = W - x ∧ x ≤ W ∧ E = mX (o ++ (Mv (sgW cs ls) W y).take x) ls y x ∧ H = [some (.box [.v (.int .i64 W), .v (.int .i64 T), .sl 1 1 (AC cs)])]) W ⟨0, by simp⟩ ?_
 rintro J hJ m E H ⟨x, rfl, hx, rfl, rfl⟩
 by_cases h : x < W
 ·have h' : (x : Int) < (W : Int) := by omega
  have hc := Vh (T := T) hy h
  have hp : T * W ≤ 6 * 6 := Nat.mul_le_mul hT hW
  have e1 : (y : Int) * (W : Int) = ((y * W : Nat) : Int) := by simp
  have hk1 : (y * W + x : Int) < (cs.length : Int) := by rw [e1]; omega
  have hk2 : (y * W + x : Int) < (ls.length : Int) := by rw [e1]; omega
  have hk0 : (0 : Int) ≤ (y : Int) * (W : Int) := by rw [e1]; omega
  have hk3 : (y : Int) * (W : Int) ≤ 36 := by rw [e1]; omega
  have e2 : ((y : Int) * (W : Int) + (x : Int)) = ((y * W + x : Nat) : Int) := by rw [Int.natCast_add, e1]
  have tk := bE (sgW cs ls) y h
  have hlt : ((Mv (sgW cs ls) W y).take x).length = x := by simp; omega
  have nx := hJ (W - (x + 1)) (mX (o ++ (Mv (sgW cs ls) W y).take (x + 1)) ls y ((x : Int) + 1)) _ ⟨x + 1, rfl, h, by simp, rfl⟩
  rw [tk, ← List.append_assoc] at nx
  generalize hr : o ++ (Mv (sgW cs ls) W y).take x = r at *
  have hrl : r.length ≤ 106 := by rw [← hr]; simp; omega
  have es : sgW cs ls (y * W + x) = if atb cs ((y : Int) * (W : Int) + (x : Int)) then lL (ati ls ((y : Int) * (W : Int) + (x : Int))) else 46 := by rw [e2]; rfl
  rw [es] at nx
  obtain ⟨w0, w1⟩ := hw ((y : Int) * (W : Int) + (x : Int)) (by omega) hk2
  cases hb : atb cs ((y : Int) * (W : Int) + (x : Int)) with
  | true =>
    rw [hb] at nx
    simp at nx
    have hc5 : ati ls ((y : Int) * (W : Int) + (x : Int)) = 0 ∨ ati ls ((y : Int) * (W : Int) + (x : Int)) = 1 ∨ ati ls ((y : Int) * (W : Int) + (x : Int)) = 2 ∨ ati ls ((y : Int) * (W : Int) + (x : Int)) = 3 ∨ ati ls ((y : Int) * (W : Int) + (x : Int)) = 4 := by omega
    rcases hc5 with h5 | h5 | h5 | h5 | h5 <;>
    ·rw [h5] at nx
     simp [lL] at nx
     simp [Cc, h', hb, hk1, hk2, h5]
     (repeat' first | omega | apply And.intro) <;> exact ⟨_, by omega, nx⟩
  | false =>
    rw [hb] at nx
    simp at nx
    simp [Cc, h', hb, hk1, hk2]
    (repeat' first | omega | apply And.intro) <;> exact ⟨_, by omega, nx⟩
 ·have : x = W := by omega
  subst this
  simp [Cc]
  exact hend _ rfl rfl (by rw [List.take_of_length_le (by simp)]; rfl) rfl
set_option maxHeartbeats 2000000 in
theorem Ry (W T : Nat) (cs : List Bool) (ls : List Int) (hr : Az W T cs = true) (hy : AO W T cs ls = true) :
  SoundAt Tryz.prog IU [.agg [.v (.int .i64 W), .v (.int .i64 T), .sl 1 1 (AC cs)], .sl 1 1 (AB ls)] (.v (tx (UA W T cs ls))) [.bot, .bot] := by
 have hw := XH hy
 have hll : ls.length = cs.length := by simp only [AO, Bool.and_eq_true, decide_eq_true_eq] at hy; exact hy.1
 have hr' := hr
 simp only [Az, decide_eq_true_eq] at hr'
 obtain ⟨w1, w2, t1, t2, hl, _⟩ := hr'
 have hl' : cs.length = T * W := by
  have : (cs.length : Int) = ((T * W : Nat) : Int) := by rw [hl, Int.natCast_mul, Int.mul_comm]
  exact Int.ofNat.inj this
 have tot := Sd (sgW cs ls) T (W := W)
 have hp : T * (W + 1) ≤ 6 * 7 := Nat.mul_le_mul (by omega) (by omega)
 have hp2 : T * W ≤ 6 * 6 := Nat.mul_le_mul (by omega) (by omega)
 have pv := BV W T cs ls (by omega) (by omega)
 rw [hr, hy] at pv
 refine AE (md := mdT) (ms := [false, false]) Tq (by simp) ?_
 rw [UA]
 simp only [Int.toNat_natCast]
 simp [Mn]
 refine ⟨by omega, ?_⟩
 refine AF (fun m E H => ∃ (n : Nat) (o : List UInt8), n = m ∧ n ≤ T ∧ o ++ EZ 47 (HX (sgW cs ls) W n) = EZ 47 (HX (sgW cs ls) W T) ∧ E = ltE o ls ((n : Int) - 1) ∧ H = [some (.box [.v (.int .i64 W), .v (.int .i64 T), .sl 1 1 (AC cs)])]) T ⟨T, [], by simp⟩ ?_
 rintro J hJ m E H ⟨n, o, rfl, hn, ho, rfl, rfl⟩
 cases n with
 | zero =>
   have ho' : o = EZ 47 (HX (sgW cs ls) W T) := by simpa [HX, EZ] using ho
   subst ho'
   simp [Fi]
 | succ n =>
   have lo : o.length ≤ 42 := by have := congrArg List.length ho; rw [List.length_append] at this; omega
   have e1 : ((n + 1 : Nat) : Int) - 1 = (n : Int) := by omega
   rw [e1]
   have body := fun Qc hend => mY W T cs ls o n (by omega) (by omega) (by omega) hl' hll hw (by omega) Qc hend
   simp [Fi]
   refine AA pv ?_
   simp
   refine body _ ?_
   intro E g1 g2 g5 g6
   have lr : (o ++ Mv (sgW cs ls) W n).length ≤ 48 := by simp; omega
   cases n with
   | zero =>
     have nx := hJ 0 (ltE (o ++ Mv (sgW cs ls) W 0) ls (-1)) _ ⟨0, _, rfl, by omega, by rw [← ho]; simp [HX, EZ], rfl, rfl⟩
     simp [g1, g2, g5, g6]
     exact ⟨_, by omega, nx⟩
   | succ n =>
     have nx := hJ (n + 1) (ltE (o ++ Mv (sgW cs ls) W (n + 1) ++ [47]) ls (n : Int)) _ ⟨n + 1, o ++ Mv (sgW cs ls) W (n + 1) ++ [47], rfl, by omega, by rw [← ho, U5 W (sgW cs ls) (by omega : 0 < n + 1)]; simp, by rw [show ((n + 1 : Nat) : Int) - 1 = (n : Int) by omega], rfl⟩
     have hpos : (0 : Int) < (n : Int) + 1 := by omega
     generalize o ++ Mv (sgW cs ls) W (n + 1) = r at *
     simp [g1, g2, g5, g6, hpos]
     exact ⟨by omega, by omega, _, by omega, nx⟩
theorem Tt (W T : Int) (cs : List Bool) (ls : List Int) (hr : Az W T cs = true) (hy : AO W T cs ls = true) :
  SoundAt Tryz.prog IU [.agg [.v (.int .i64 W), .v (.int .i64 T), .sl 1 1 (AC cs)], .sl 1 1 (AB ls)] (.v (tx (UA W T cs ls))) [.bot, .bot] := by
 have hr' := hr
 simp only [Az, decide_eq_true_eq] at hr'
 obtain ⟨w, rfl⟩ : ∃ w : Nat, W = w := ⟨W.toNat, by omega⟩
 obtain ⟨t, rfl⟩ : ∃ t : Nat, T = t := ⟨T.toNat, by omega⟩
 exact Ry w t cs ls hr hy
theorem Z0 (W T : Int) (cs : List Bool) (ls : List Int) (k : Int) (h0 : 0 ≤ k) (h1 : k < ls.length) (hl : ls.length = cs.length) (hw : XG ls) :
  SoundAt Tryz.prog KT [.v (.int .i64 k), .vp 1 [.v (.int .i64 W), .v (.int .i64 T), .sl 1 1 (AC cs)] 0, .vp 1 [.sl 1 1 (AB ls)] 0] (.v (.int .u8 (toI (sgW cs ls k.toNat)))) [.bot, .bot, .bot] := by
 refine AE (md := mdT) (ms := [false, false, false]) Q3 (by simp) ?_
 obtain ⟨w0, w1⟩ := hw k h0 h1
 have hk : k < (cs.length : Int) := by omega
 have ek : ((k.toNat : Nat) : Int) = k := by omega
 unfold sgW
 rw [ek]
 cases hb : atb cs k with
 | false => simp [GN, h0, h1, hk, hb, toI]
 | true =>
   have hc5 : ati ls k = 0 ∨ ati ls k = 1 ∨ ati ls k = 2 ∨ ati ls k = 3 ∨ ati ls k = 4 := by omega
   rcases hc5 with h5 | h5 | h5 | h5 | h5 <;> simp [GN, h0, h1, hk, hb, h5, lL, toI, Xo]
abbrev rlF (W T : Int) (cs : List Bool) (ls : List Int) : AV := .fn 181 [.vp 1 [.v (.int .i64 W), .v (.int .i64 T), .sl 1 1 (AC cs)] 0, .vp 1 [.sl 1 1 (AB ls)] 0]
abbrev rlE (W T : Int) (cs : List Bool) (ls : List Int) (k : Nat) (y : Int) : ES := [(1, rlF W T cs ls), (2, .lp 0 0 0 0), (5, .ls 1 1 0 k), (6, .v (.int .i64 y))]
abbrev mZ (W T : Nat) (cs : List Bool) (ls : List Int) (k : Nat) (y x : Int) : ES := [(1, rlF W T cs ls), (2, .lp 0 0 0 0), (5, .ls 1 1 0 k), (6, .v (.int .i64 y)), (7, .ls 1 2 0 W), (20, .v (.int .i64 W)), (21, .v (.int .i64 x))]
set_option maxHeartbeats 2000000 in
theorem ma (W T : Nat) (cs : List Bool) (ls : List Int) (rs : List (List UInt8)) (y : Nat) (hW : W ≤ 6) (hT : T ≤ 6) (hy : y < T) (hl : cs.length = T * W) (hll : ls.length = cs.length) (hw : XG ls) (Qc : AExit → ES → AH → Prop)
  (hend : ∀ E, get E 1 = rlF W T cs ls → get E 2 = .lp 0 0 0 0 → get E 5 = .ls 1 1 0 rs.length → get E 6 = .v (.int .i64 y) → get E 7 = .ls 1 2 0 W →
   Qc (.exit 2) E [some (.box [.v (.int .i64 W), .v (.int .i64 T), .sl 1 1 (AC cs)]), some (.arr 1 (txs rs)), some (.arr 1 (u8s ((Mv (sgW cs ls) W y).map toI)))]) :
  D9 [(5, 1), (7, 1)] [1, 2, 5, 6, 7, 20, 21] (awp Tryz.prog mdT AY) Qc (mZ W T cs ls rs.length y 0) [some (.box [.v (.int .i64 W), .v (.int .i64 T), .sl 1 1 (AC cs)]), some (.arr 1 (txs rs)), some (.arr 1 (List.replicate W (.v (.int .u8 0))))] := by
 rw [cM]
 refine AF (fun m E H => ∃ x : Nat, m = W - x ∧ x ≤ W ∧ E = mZ W T cs ls rs.length y x ∧ H = [some (.box [.v (.int .i64 W), .v (.int .i64 T), .sl 1 1 (AC cs)]), some (.arr 1 (txs rs)), some (.arr 1 (u8s (part 0 toI W 0 x (Mv (sgW cs ls) W y) [])))]) W ⟨0, by simp [Xf, full]⟩ ?_
 rintro J hJ m E H ⟨x, rfl, hx, rfl, rfl⟩
 by_cases h : x < W
 ·have h' : (x : Int) < (W : Int) := by omega
  have hxr : x < (Mv (sgW cs ls) W y).length := by simp [h]
  have hc := Vh (T := T) hy h
  have hp : T * W ≤ 6 * 6 := Nat.mul_le_mul hT hW
  have e1 : (y : Int) * (W : Int) = ((y * W : Nat) : Int) := by simp
  have q0 : (0 : Int) ≤ (y : Int) * (W : Int) := by rw [e1]; omega
  have q1 : (y : Int) * (W : Int) ≤ 36 := by rw [e1]; omega
  have q2 : ((y : Int) * (W : Int) + (x : Int)) < (ls.length : Int) := by rw [e1]; omega
  have e2 : ((y : Int) * (W : Int) + (x : Int)) = ((y * W + x : Nat) : Int) := by rw [Int.natCast_add, e1]
  have sg := Z0 W T cs ls ((y : Int) * (W : Int) + (x : Int)) (by omega) q2 hll hw
  have es : sgW cs ls ((y : Int) * (W : Int) + (x : Int)).toNat = (Mv (sgW cs ls) W y)[x] := by
   rw [e2]; simp only [Mv, List.getElem_map, List.getElem_range, Int.toNat_natCast]
  rw [es] at sg
  have st := ZM (0 : Int) toI W 0 x (Mv (sgW cs ls) W y) [] (by simp) hxr
  have l1 := To (0 : Int) toI W 0 x (Mv (sgW cs ls) W y) [] (by simp) hx
  simp only [Nat.zero_mul, Nat.zero_add, List.length_nil, Nat.add_zero] at st l1
  have nx := hJ (W - (x + 1)) (mZ W T cs ls rs.length y ((x : Int) + 1)) _ ⟨x + 1, rfl, h, by simp, rfl⟩
  rw [← st] at nx
  generalize part 0 toI W 0 x (Mv (sgW cs ls) W y) [] = X at *
  generalize toI (Mv (sgW cs ls) W y)[x] = z at *
  have hX : x < X.length := by omega
  have qf : aN Tryz.prog 181 = true := by kernel_rfl
  simp [AY, h', hX, qf, h]
  refine ⟨by omega, by omega, ?_⟩
  refine AA sg ?_
  simp [cL, hX, h]
  exact ⟨by omega, _, by omega, nx⟩
 ·have : x = W := by omega
  subst this
  rw [ZL _ _ _ _ _ _ (by simp)]
  simp [AY, full]
  apply hend <;> rfl
set_option maxHeartbeats 2000000 in
theorem Rz (W T : Nat) (cs : List Bool) (ls : List Int) (hr : Az W T cs = true) (hll : ls.length = cs.length) (hw : XG ls) :
  SoundAt Tryz.prog DY [.agg [.v (.int .i64 W), .v (.int .i64 T), .sl 1 1 (AC cs)], rlF W T cs ls] (.v (tx (EZ 47 (HX (sgW cs ls) W T)))) [.bot, .bot] := by
 refine AE (md := mdT) (ms := [false, false]) F1 (by simp) ?_
 have hr' := hr
 simp only [Az, decide_eq_true_eq] at hr'
 obtain ⟨w1, w2, t1, t2, hl, _⟩ := hr'
 have hW6 : W ≤ 6 := by omega
 have hT6 : T ≤ 6 := by omega
 have hl' : cs.length = T * W := by
  have : (cs.length : Int) = ((T * W : Nat) : Int) := by rw [hl, Int.natCast_mul, Int.mul_comm]
  exact Int.ofNat.inj this
 have tot := Sd (sgW cs ls) T (W := W)
 have hp : T * (W + 1) ≤ 6 * 7 := Nat.mul_le_mul hT6 (by omega)
 have jn := Nw (HX (sgW cs ls) W T) 47 (by simp; omega) (by omega)
 simp [DZ]
 refine ⟨by omega, ?_⟩
 refine AF (fun m E H => ∃ (n : Nat) (rs : List (List UInt8)), n = m ∧ n ≤ T ∧ rs ++ HX (sgW cs ls) W n = HX (sgW cs ls) W T ∧ E = rlE W T cs ls rs.length ((n : Int) - 1) ∧
  H = [some (.box [.v (.int .i64 W), .v (.int .i64 T), .sl 1 1 (AC cs)]), some (.arr 1 (txs rs))]) T ⟨T, [], by simp⟩ ?_
 rintro J hJ m E H ⟨n, rs, rfl, hn, ho, rfl, rfl⟩
 cases n with
 | zero =>
   have ho' : rs = HX (sgW cs ls) W T := by simpa [HX] using ho
   subst ho'
   rw [Ij]
   have tk : List.take T (txs (HX (sgW cs ls) W T)) = txs (HX (sgW cs ls) W T) := List.take_of_length_le (by simp)
   simp [Ax]
   refine AA jn ?_
   simp [tk]
 | succ n =>
   have la : rs.length ≤ 6 := by have := congrArg List.length ho; rw [List.length_append, Ij, Ij] at this; omega
   have e1 : ((n + 1 : Nat) : Int) - 1 = (n : Int) := by omega
   have w0 : (0 : Int) ≤ (W : Int) := by omega
   rw [e1]
   have nx := hJ n (rlE W T cs ls (rs ++ [Mv (sgW cs ls) W n]).length ((n : Int) - 1)) _ ⟨n, rs ++ [Mv (sgW cs ls) W n], rfl, by omega, by rw [← ho, HX]; simp, rfl, rfl⟩
   rw [Mt, X5, List.length_append, List.length_singleton] at nx
   have body := ma W T cs ls rs n hW6 hT6 (by omega) hl' hll hw
   simp [Ax, w0]
   refine ⟨by omega, ?_⟩
   refine body _ ?_
   intro E g1 g2 g5 g6 g7
   have tk : List.take W (u8s ((Mv (sgW cs ls) W n).map toI)) = u8s ((Mv (sgW cs ls) W n).map toI) := List.take_of_length_le (by simp)
   have hst := fR (Mv (sgW cs ls) W n)
   have hrw : W ≤ (Mv (sgW cs ls) W n).length := by simp
   generalize Mv (sgW cs ls) W n = row at *
   rw [List.map_map] at hst
   simp [g1, g2, g5, g6, g7, tk, hst, hrw, eG]
   exact ⟨by omega, by omega, _, by omega, nx⟩
theorem Tu (W T : Int) (cs : List Bool) (ls : List Int) (hr : Az W T cs = true) (hy : AO W T cs ls = true) :
  SoundAt Tryz.prog Mo [.agg [.v (.int .i64 W), .v (.int .i64 T), .sl 1 1 (AC cs)], .sl 1 1 (AB ls)] (.v (tx (UA W T cs ls))) [.bot, .bot] := by
 have hr' := hr
 simp only [Az, decide_eq_true_eq] at hr'
 obtain ⟨w, rfl⟩ : ∃ w : Nat, W = w := ⟨W.toNat, by omega⟩
 obtain ⟨t, rfl⟩ : ∃ t : Nat, T = t := ⟨T.toNat, by omega⟩
 have hll : ls.length = cs.length := by simp only [AO, Bool.and_eq_true, decide_eq_true_eq] at hy; exact hy.1
 have hp2 : (w : Int) * t ≤ 36 := by
  have : w * t ≤ 6 * 6 := Nat.mul_le_mul (by omega) (by omega)
  have e : (w : Int) * t = ((w * t : Nat) : Int) := by simp
  omega
 have pv := Km w t cs ls (by omega) (by omega)
 rw [hr, hy] at pv
 have rt := Rz w t cs ls hr hll (XH hy)
 refine AE (md := mdT) (ms := [false, false]) Tr (by simp) ?_
 rw [UA]
 simp only [Int.toNat_natCast]
 simp [Mp]
 refine AA pv ?_
 simp
 refine AA rt ?_
 simp
end Go.Proofs.Dev
