/- Contracts of the functions of the program over slots and rows, each proved against the program itself; no condition beyond those that each theorem names. -/
import Derived.Test.YtjldabnbfdgbhaaE
import Derived.Shelf.Bits.Mul64
import Derived.Ground.NamesProg
import Derived.Test.YtjldabnbfdgbhaaProg

set_option linter.unusedSimpArgs false
set_option linter.unusedVariables false

namespace Go.Proofs
open Go.Shelf
def Try.lays212_ren : Go.Shelf.Ren := ⟨fun | 212 => 125 | 263 => 143 | 264 => 144 | n => n, fun | 46 => 91 | 51 => 105 | 146 => 106 | 53 => 108 | 148 => 109 | n => n, fun | n => n⟩
theorem Try.lays212 : Go.Proofs.Lays.n212 Try.prog Try.lays212_ren := {
  mixed := by kernel_rfl
  f212 := Try.func125.trans (congrArg some (by kernel_rfl))
  f263 := Try.func143.trans (congrArg some (by kernel_rfl))
  f264 := Try.func144.trans (congrArg some (by kernel_rfl))
  t46 := Try.underlying91
  a46 := Try.isAgg91
  z46 := Try.sizeOf91
  v46 := Try.zeroValue91
  t51 := Try.underlying105
  a51 := Try.isAgg105
  z51 := Try.sizeOf105
  v51 := Try.zeroValue105
  t53 := Try.underlying108
  a53 := Try.isAgg108
  z53 := Try.sizeOf108
  v53 := Try.zeroValue108
  t146 := Try.underlying106
  a146 := Try.isAgg106
  z146 := Try.sizeOf106
  v146 := Try.zeroValue106
  t148 := Try.underlying109
  a148 := Try.isAgg109
  z148 := Try.sizeOf109
  v148 := Try.zeroValue109 }
theorem Try.bits_Mul (x y : Nat) (hx : x < 18446744073709551616) (hy : y < 18446744073709551616) (w : World) :
    Calls Try.prog 125 #[.int .u64 x, .int .u64 y] w fun e w' => e = .returned (.tuple #[.int .u64 ((x * y / 18446744073709551616 : Nat) : Int), .int .u64 ((x * y % 18446744073709551616 : Nat) : Int)]) ∧ w' = w := Any.bits_Mul Try.lays212 x y hx hy w
namespace Dev

theorem pair_sound {P : Program} {f : Nat} {x y a b : Value} (hc : ∀ w : World, Calls P f #[x, y] w fun e w' => e = .returned (.tuple #[a, b]) ∧ w' = w) :
    SoundAt P f [.v x, .v y] (.tup [.v a, .v b]) [.bot, .bot] := by
  intro w forb us S hr hnd hlt hforb
  rw [RL] at hr
  obtain ⟨S1, S2, u1, us2, rfl, rfl, h1, h2⟩ := hr
  rw [RL] at h2
  obtain ⟨S3, S4, u3, us4, rfl, rfl, h3, h4⟩ := h2
  rw [RL] at h4
  obtain ⟨rfl, rfl⟩ := h4
  rw [R] at h1 h3
  obtain ⟨rfl, rfl⟩ := h1
  obtain ⟨rfl, rfl⟩ := h3
  refine (hc w).mono ?_
  rintro e w' ⟨rfl, rfl⟩
  refine ⟨.tuple #[a, b], [], rfl, ?_, by simp, by simp, Kept.refl _ _ _⟩
  rw [RL]
  refine ⟨[], [], _, _, rfl, rfl, ?_, ?_⟩
  · rw [R]
    refine ⟨[a, b], rfl, ?_⟩
    rw [RL]
    refine ⟨[], [], _, _, rfl, rfl, by rw [R]; exact ⟨rfl, rfl⟩, ?_⟩
    rw [RL]
    exact ⟨[], [], _, _, rfl, rfl, by rw [R]; exact ⟨rfl, rfl⟩, by rw [RL]; exact ⟨rfl, rfl⟩⟩
  · rw [RL]
    refine ⟨[], [], _, _, rfl, rfl, by rw [R], ?_⟩
    rw [RL]
    exact ⟨[], [], _, _, rfl, rfl, by rw [R], by rw [RL]; exact ⟨rfl, rfl⟩⟩

theorem s_Mul (x y : Nat) (hx : x < 18446744073709551616) (hy : y < 18446744073709551616) (h : x * y < 18446744073709551616) : SoundAt Try.prog 125 [.v (.int .u64 x), .v (.int .u64 y)] (.tup [.v (.int .u64 0), .v (.int .u64 (x * y : Nat))]) [.bot, .bot] := by
  have e1 : x * y / 18446744073709551616 = 0 := Nat.div_eq_of_lt h
  have e2 : x * y % 18446744073709551616 = x * y := Nat.mod_eq_of_lt h
  have := Try.bits_Mul x y hx hy
  rw [e1, e2] at this
  exact pair_sound this

end Dev
end Go.Proofs
