/- Contracts of the functions of the program over slots and rows, each proved against the program itself; no condition beyond those that each theorem names. -/
import Derived.Test.YtlcoaglnegibkaaE
import Derived.Shelf.Bits.Mul64
import Derived.Ground.NamesProg
import Derived.Test.YtlcoaglnegibkaaProg
import Derived.Test.YtlcoaglnegibkaaG
import Derived.Test.YtlcoaglnegibkaaAM

set_option linter.unusedSimpArgs false
set_option linter.unusedVariables false

namespace Go.Proofs
open Go.Shelf
def Try.lays212_ren : Go.Shelf.Ren := ⟨fun | 212 => 130 | 263 => 152 | 264 => 153 | n => n, fun | 46 => 93 | 51 => 110 | 146 => 115 | 53 => 112 | 148 => 117 | n => n, fun | n => n⟩
theorem Try.lays212 : Go.Proofs.Lays.n212 Try.prog Try.lays212_ren := {
  mixed := by kernel_rfl
  f212 := Try.func130.trans (congrArg some (by kernel_rfl))
  f263 := Try.func152.trans (congrArg some (by kernel_rfl))
  f264 := Try.func153.trans (congrArg some (by kernel_rfl))
  t46 := Try.underlying93
  a46 := Try.isAgg93
  z46 := Try.sizeOf93
  v46 := Try.zeroValue93
  t51 := Try.underlying110
  a51 := Try.isAgg110
  z51 := Try.sizeOf110
  v51 := Try.zeroValue110
  t53 := Try.underlying112
  a53 := Try.isAgg112
  z53 := Try.sizeOf112
  v53 := Try.zeroValue112
  t146 := Try.underlying115
  a146 := Try.isAgg115
  z146 := Try.sizeOf115
  v146 := Try.zeroValue115
  t148 := Try.underlying117
  a148 := Try.isAgg117
  z148 := Try.sizeOf117
  v148 := Try.zeroValue117 }
theorem Try.bits_Mul (x y : Nat) (hx : x < 18446744073709551616) (hy : y < 18446744073709551616) (w : World) :
    Calls Try.prog 130 #[.int .u64 x, .int .u64 y] w fun e w' => e = .returned (.tuple #[.int .u64 ((x * y / 18446744073709551616 : Nat) : Int), .int .u64 ((x * y % 18446744073709551616 : Nat) : Int)]) ∧ w' = w := Any.bits_Mul Try.lays212 x y hx hy w
namespace Dev

theorem pair_sound {P : Program} {f : Nat} {x y a b : Value} (hc : ∀ w : World, Calls P f #[x, y] w fun e w' => e = .returned (.tuple #[a, b]) ∧ w' = w) :
    SoundAt P f [.v x, .v y] (.tup [.v a, .v b]) [.bot, .bot] := by
  intro w forb us S hr hnd hlt hforb
  rw [RL] at hr
  obtain ⟨S1, S2, u1, us2, rfl, rfl, h1, h2⟩ := hr
  rw [RL] at h2
  obtain ⟨S3, S4, u3, us4, rfl, rfl, h3, h4⟩ := h2
  rw [RL] at h4
  obtain ⟨rfl, rfl⟩ := h4
  rw [R] at h1 h3
  obtain ⟨rfl, rfl⟩ := h1
  obtain ⟨rfl, rfl⟩ := h3
  refine (hc w).mono ?_
  rintro e w' ⟨rfl, rfl⟩
  refine ⟨.tuple #[a, b], [], rfl, ?_, by simp, by simp, Kept.refl _ _ _⟩
  rw [RL]
  refine ⟨[], [], _, _, rfl, rfl, ?_, ?_⟩
  · rw [R]
    refine ⟨[a, b], rfl, ?_⟩
    rw [RL]
    refine ⟨[], [], _, _, rfl, rfl, by rw [R]; exact ⟨rfl, rfl⟩, ?_⟩
    rw [RL]
    exact ⟨[], [], _, _, rfl, rfl, by rw [R]; exact ⟨rfl, rfl⟩, by rw [RL]; exact ⟨rfl, rfl⟩⟩
  · rw [RL]
    refine ⟨[], [], _, _, rfl, rfl, by rw [R], ?_⟩
    rw [RL]
    exact ⟨[], [], _, _, rfl, rfl, by rw [R], by rw [RL]; exact ⟨rfl, rfl⟩⟩

theorem s_Mul (x y : Nat) (hx : x < 18446744073709551616) (hy : y < 18446744073709551616) (h : x * y < 18446744073709551616) : SoundAt Try.prog 130 [.v (.int .u64 x), .v (.int .u64 y)] (.tup [.v (.int .u64 0), .v (.int .u64 (x * y : Nat))]) [.bot, .bot] := by
  have e1 : x * y / 18446744073709551616 = 0 := Nat.div_eq_of_lt h
  have e2 : x * y % 18446744073709551616 = x * y := Nat.mod_eq_of_lt h
  have := Try.bits_Mul x y hx hy
  rw [e1, e2] at this
  exact pair_sound this

end Dev
end Go.Proofs

namespace Go.Proofs.Dev
set_option linter.unusedSimpArgs false
set_option maxRecDepth 100000

/-- All pairs, in ascending order. -/
def prL : List (Int × Int) := (List.range 7).flatMap fun a => (List.range' a (7 - a)).map fun b : Nat => ((a : Int), (b : Int))
def prV (p : Int × Int) : AV := .agg [.v (.int .i64 p.1), .v (.int .i64 p.2)]
def prA : List AV := prL.map prV
/-- How many pairs have a lesser number below a. -/
def stN (a : Nat) : Nat := a * (15 - a) / 2

theorem prL_length : prL.length = 28 := by decide
theorem prA_length : prA.length = 28 := by simp [prA, prL_length]
theorem stN_succ {a : Nat} (h : a < 7) : stN (a + 1) = stN a + (7 - a) ∧ stN a + (7 - a) ≤ 28 := by
  have : ∀ a < 7, stN (a + 1) = stN a + (7 - a) ∧ stN a + (7 - a) ≤ 28 := by decide
  exact this a h
theorem prL_at {a b : Nat} (h : a < 7) (hb : b < 7 - a) : prL[stN a + b]? = some ((a : Int), ((a + b : Nat) : Int)) := by
  have : ∀ a < 7, ∀ b < 7 - a, prL[stN a + b]? = some ((a : Int), ((a + b : Nat) : Int)) := by decide
  exact this a h b hb
theorem prA_next {a b : Nat} (h : a < 7) (hb : b < 7 - a) : prA.take (stN a + b) ++ [.agg [.v (.int .i64 a), .v (.int .i64 ((a + b : Nat) : Int))]] = prA.take (stN a + b + 1) := by
  rw [List.take_add_one]
  congr 1
  simp [prA, prL_at h hb, prV]
theorem prA_take_length {a b : Nat} (h : a < 7) (hb : b ≤ 7 - a) : (prA.take (stN a + b)).length = stN a + b := by
  have := (stN_succ h).2
  rw [List.length_take, prA_length]; omega

theorem s_impl_allPairs : SoundAt Try.prog n_impl_allPairs [] (.os 2 prA) [] := by
  refine fn_ok (md := md0) (ms := []) k_impl_allPairs (by simp) ?_
  simp [c_impl_allPairs]
  refine loop_by (fun m E H => ∃ a : Nat, m = 7 - a ∧ a ≤ 7 ∧ H = [some (.arr 2 (prA.take (stN a)))] ∧ E = [(1, .ls 2 0 0 (stN a)), (2, .v (.int .i64 a))]) 7 ⟨0, by simp [stN]⟩ ?_
  rintro J hJ m E H ⟨a, rfl, ha, rfl, rfl⟩
  by_cases h : a < 7
  · have h' : (a : Int) ≤ 6 := by omega
    simp [c_impl_allPairs_L1, h']
    refine loop_by (fun m E H => ∃ b : Nat, m = 7 - a - b ∧ b ≤ 7 - a ∧ H = [some (.arr 2 (prA.take (stN a + b)))] ∧ E = [(1, .ls 2 0 0 (stN a + b)), (2, .v (.int .i64 a)), (3, .v (.int .i64 ((a + b : Nat) : Int)))]) (7 - a) ⟨0, by simp⟩ ?_
    rintro J2 hJ2 m2 E2 H2 ⟨b, rfl, hb, rfl, rfl⟩
    have hlen := prA_take_length h hb
    by_cases h2 : b < 7 - a
    · have h2' : (a : Int) + b ≤ 6 := by omega
      have hs := (stN_succ h).2
      have hn := prA_next h h2
      simp only [Int.natCast_add] at hn
      simp [c_impl_allPairs_L0, h2', hlen, hn]
      refine ⟨by omega, by omega, _, by omega, hJ2 _ _ _ ⟨b + 1, rfl, h2, rfl, ?_⟩⟩
      simp [Int.add_assoc, Nat.add_assoc]
    · have : b = 7 - a := by omega
      subst this
      have h2' : ¬ (a : Int) + ((7 - a : Nat) : Int) ≤ 6 := by omega
      have hs := (stN_succ h).1
      simp [c_impl_allPairs_L0, h2']
      refine ⟨by omega, _, by omega, hJ _ _ _ ⟨a + 1, rfl, h, by rw [hs], by rw [hs]; simp⟩⟩
  · have : a = 7 := by omega
    subst this
    have e : stN 7 = 28 := by decide
    simp [c_impl_allPairs_L1, e, prA_length]
    exact List.take_of_length_le (by simp [prA_length])

/-- A list whose first k elements are written. -/
def repI (v : Int) (n k : Nat) : List Int := List.replicate k v ++ List.replicate (n - k) 0
theorem repI_length {v : Int} {n k : Nat} (h : k ≤ n) : (repI v n k).length = n := by simp [repI]; omega
theorem repI_all (v : Int) (n : Nat) : repI v n n = List.replicate n v := by simp [repI]
theorem repI_take {v : Int} {n k j : Nat} (h : j ≤ k) : (repI v n k).take j = List.replicate j v := by
  rw [repI, List.take_append_of_le_length (by simpa using h), List.take_replicate, Nat.min_eq_left h]
theorem repI_drop {v : Int} {n k j : Nat} (h : k ≤ j) : (repI v n k).drop j = List.replicate (n - j) 0 := by
  rw [repI, List.drop_append, List.drop_of_length_le (by simpa using h), List.nil_append, List.drop_replicate]
  simp; omega
theorem repI_step {v : Int} {n k d : Nat} (h : d ≤ k) : (repI v n k).take k ++ ((repI v n k).take k).take d ++ (repI v n k).drop (k + d) = repI v n (k + d) := by
  rw [repI_take (Nat.le_refl k), repI_drop (by omega), List.take_replicate, Nat.min_eq_left h, List.replicate_append_replicate]
  rfl

theorem repI_row {v : Int} {n k d : Nat} (h : d ≤ k) : List.take k (ints (repI v n k)) ++ (List.take d (List.take k (ints (repI v n k))) ++ List.drop (k + d) (ints (repI v n k))) = ints (repI v n (k + d)) := by
  rw [← List.append_assoc, ← repI_step h]
  simp [ints, List.map_take, List.map_drop]

theorem s_slices_Repeat (v : Int) (n : Nat) (hn : n < 2 ^ 40) : SoundAt Try.prog n_slices_Repeat_int_int [.sl 1 1 (ints [v]), .v (.int .i64 n)] (.os 1 (ints (List.replicate n v))) [.bot, .bot] := by
  refine fn_ok (md := md0) (ms := [false, false]) k_slices_Repeat_int_int (by simp) ?_
  have h0 : ¬ (n : Int) < 0 := by omega
  simp [c_slices_Repeat_int_int, h0]
  refine ⟨by omega, ?_⟩
  have hm := s_Mul 1 n (by omega) (by omega) (by omega)
  rw [Nat.one_mul] at hm
  refine call_on hm ?_
  have h1 : ¬ (9223372036854775807 : Int) < n := by omega
  simp [h1, acopy, dstOf]
  have e0 : List.take (min n 1) (ints [v]) ++ List.replicate (n - min n 1) (AV.v (Value.int IntKind.i64 0)) = ints (repI v n (min n 1)) := by
    have : n = 0 ∨ min n 1 = 1 := by omega
    rcases this with h | h
    · subst h; simp [repI, ints]
    · simp [h, repI, ints]
  rw [e0]
  refine ⟨by omega, by omega, ?_⟩
  refine loop_by (fun m E H => ∃ k : Nat, m = n - k ∧ k ≤ n ∧ (k = 0 → n = 0) ∧ H = [some (.arr 1 (ints (repI v n k)))] ∧ E = [(7, .ls 1 0 0 n), (8, .v (.int .i64 k))]) (n - min n 1) ⟨min n 1, rfl, by omega, fun h => by omega, rfl, rfl⟩ ?_
  rintro J hJ m E H ⟨k, rfl, hk, hk0, rfl, rfl⟩
  have hl := repI_length (v := v) hk
  by_cases h : k < n
  · have e1 : k + (n - k) ≤ n := by omega
    have e2 := repI_row (v := v) (n := n) (k := k) (d := min (n - k) k) (by omega)
    simp [c_slices_Repeat_int_int_L0, h, acopy, dstOf, hl, hk, e1, e2]
    refine ⟨?_, by omega, _, ?_, hJ _ _ _ ⟨k + min (n - k) k, rfl, by omega, fun h => by omega, rfl, by simp⟩⟩
    · rw [show List.take k (ints (repI v n k)) = ints ((repI v n k).take k) from by simp [ints, List.map_take]]
      simp
    · have : k ≠ 0 := fun e => by have := hk0 e; omega
      omega
  · have : k = n := by omega
    subst this
    simp [c_slices_Repeat_int_int_L0, hl, repI_all]
    exact List.take_of_length_le (by simp)

end Go.Proofs.Dev
