/- Contracts of the functions of the program over slots and rows, each proved against the program itself; no condition beyond those that each theorem names. -/
import Derived.Test.YtlcoaglnegibkaaGreatE
import Derived.Lib.SlicesCompact
import Derived.Test.YtlcoaglnegibkaaGreatJ
import Derived.Sort.Row
import Derived.Sort.Grow
import Derived.Shelf.Sort.Plain
import Derived.Shelf.Slices.CompactI
import Derived.Ground.Names2Prog
import Derived.Test.YtlcoaglnegibkaaGreatProg

set_option linter.unusedSimpArgs false
set_option linter.unusedVariables false

namespace Go.Proofs.Dev

def srt (xs : List Int) : List Int := xs.mergeSort fun x y => decide (x ≤ y)
def onceB (xs : List Int) : Bool := decide xs.Nodup

theorem srt_length (xs : List Int) : (srt xs).length = xs.length := by simp [srt]
theorem srt_perm (xs : List Int) : List.Perm (srt xs) xs := List.mergeSort_perm xs _
theorem srt_sorted (xs : List Int) : List.Pairwise (· ≤ ·) (srt xs) := by
  have h := List.pairwise_mergeSort (le := fun x y : Int => decide (x ≤ y)) (fun a b c h1 h2 => by simp at *; omega) (fun a b => by simp; omega) xs
  exact h.imp (by simp)

theorem sorted_once {ys : List Int} (hs : List.Pairwise (· ≤ ·) ys) : (∀ j, j < ys.length → Lib.keeps ys.toArray j = true) ↔ ys.Nodup := by
  constructor
  · intro h
    refine List.pairwise_iff_getElem.2 fun i j hi hj hij => ?_
    have h1 := h j hj
    simp only [Lib.keeps, decide_eq_true_eq] at h1
    rcases h1 with h1 | h1
    · omega
    · have e1 : ys.toArray[j]! = ys[j] := by simp [hj]
      have e2 : ys.toArray[j - 1]! = ys[j - 1]'(by omega) := by simp [show j - 1 < ys.length by omega]
      rw [e1, e2] at h1
      have h2 := List.pairwise_iff_getElem.1 hs (j - 1) j (by omega) hj (by omega)
      have h3 : ys[i] ≤ ys[j - 1]'(by omega) := by
        rcases Nat.lt_or_ge i (j - 1) with h4 | h4
        · exact List.pairwise_iff_getElem.1 hs i (j - 1) hi (by omega) h4
        · have : i = j - 1 := by omega
          subst this; exact Int.le_refl _
      omega
  · intro h j hj
    simp only [Lib.keeps, decide_eq_true_eq]
    rcases Nat.eq_zero_or_pos j with h0 | h0
    · exact .inl h0
    · right
      have e1 : ys.toArray[j]! = ys[j] := by simp [hj]
      have e2 : ys.toArray[j - 1]! = ys[j - 1]'(by omega) := by simp [show j - 1 < ys.length by omega]
      rw [e1, e2]
      exact fun e => List.pairwise_iff_getElem.1 h (j - 1) j (by omega) hj (by omega) e.symm

theorem compact_length (ys : List Int) : (Lib.compact ys).length = ys.length ↔ ∀ j, j < ys.length → Lib.keeps ys.toArray j = true := by
  unfold Lib.compact Lib.compactUpTo
  rw [List.length_map]
  constructor
  · intro h j hj
    have h1 := (List.length_filter_eq_length_iff (p := Lib.keeps ys.toArray) (l := List.range ys.length)).1 (by rw [h, List.length_range])
    exact h1 j (by simpa using hj)
  · intro h
    rw [(List.length_filter_eq_length_iff (p := Lib.keeps ys.toArray) (l := List.range ys.length)).2 (fun j hj => h j (by simpa using hj)), List.length_range]

theorem compact_le (ys : List Int) : (Lib.compact ys).length ≤ ys.length := by
  unfold Lib.compact Lib.compactUpTo
  rw [List.length_map]
  exact Nat.le_trans (List.length_filter_le _ _) (by simp)

/-- Sorted and compacted a list is as long as before exactly if nothing comes twice. -/
theorem once_sorted (xs : List Int) : (Lib.compact (srt xs)).length = xs.length ↔ xs.Nodup := by
  rw [← srt_length xs, compact_length, sorted_once (srt_sorted xs)]
  exact (srt_perm xs).nodup_iff

theorem once_take_succ (xs : List Int) (i : Nat) (h : i < xs.length) : (xs.take (i + 1)).Nodup ↔ (xs.take i).Nodup ∧ ¬ ati xs i ∈ xs.take i := by
  have e : ati xs i = xs[i] := by simp [ati, h]
  rw [List.take_succ_eq_append_getElem h, e, List.nodup_append]
  simp
  intro _
  constructor
  · intro h1 h2; exact h1 _ h2 rfl
  · intro h1 a h2 h3; subst h3; exact h1 h2

end Go.Proofs.Dev

namespace Go.Proofs.Dev
open Go.Sort

abbrev encInt : Int → Value := Value.int .i64

theorem arr_room {w : World} {n : Nat} {os : Array Obj} {blk off : Nat} {d0 d : Array Int} (hH : Holds encInt w blk off d0) (hs : d.size = d0.size) (b p k : Nat) (h : Room w b p k) : Room (grow (putRow encInt (Go.Sort.ahead w n) blk off d) os) b p k := by
  intro j hj
  obtain ⟨⟨u, hu⟩, hf⟩ := h j hj
  have hlt : b < w.heap.size := block_lt_of_cell hu
  have hsz : (putRow encInt (Go.Sort.ahead w n) blk off d).heap.size = w.heap.size := by simp [putRow, mapBlock, Go.Sort.ahead]
  rw [cell?_grow _ _ _ (by rw [hsz]; exact hlt), frozen?_grow _ _ _ (by rw [hsz]; exact hlt)]
  refine ⟨?_, by unfold putRow; rw [frozen?_mapBlock]; exact hf⟩
  by_cases ho : b ≠ blk ∨ p + j < off ∨ off + d.size ≤ p + j
  · rw [cell?_putRow_other encInt _ blk off d ⟨b, p + j, none⟩ ho]
    exact ⟨u, hu⟩
  · have hb : b = blk := by
      rcases Nat.lt_trichotomy b blk with h1 | h1 | h1
      · exact absurd (.inl (by omega)) ho
      · exact h1
      · exact absurd (.inl (by omega)) ho
    subst hb
    have h2 : off ≤ p + j ∧ p + j < off + d.size := ⟨by
      rcases Nat.lt_or_ge (p + j) off with h1 | h1
      · exact absurd (.inr (.inl h1)) ho
      · exact h1, by
      rcases Nat.lt_or_ge (p + j) (off + d.size) with h1 | h1
      · exact h1
      · exact absurd (.inr (.inr h1)) ho⟩
    have h3 := (holds_putRow encInt (Go.Sort.ahead w n) b off d0 d (holds_ahead encInt w n b off d0 hH) hs) (p + j - off) (by omega)
    rw [show off + (p + j - off) = p + j by omega] at h3
    exact ⟨_, h3.1⟩

theorem arr_kept {w : World} {n : Nat} {os : Array Obj} {blk off : Nat} {d0 d : Array Int} (hH : Holds encInt w blk off d0) (hs : d.size = d0.size) : Kept w.heap.size [blk] w (grow (putRow encInt (Go.Sort.ahead w n) blk off d) os) := by
  have hsz : (putRow encInt (Go.Sort.ahead w n) blk off d).heap.size = w.heap.size := by simp [putRow, mapBlock, Go.Sort.ahead]
  refine ⟨rfl, rfl, rfl, ?_, ?_, arr_room hH hs⟩
  · simp only [grow, Array.size_append]; omega
  · intro k hk hn
    rw [heap_grow_old _ _ (by rw [hsz]; exact hk)]
    simp only [putRow, mapBlock, Go.Sort.ahead, Array.getElem?_modify]
    rw [if_neg (fun e => hn (by simp [e]))]

theorem arr_cells {w : World} {n : Nat} {os : Array Obj} {blk off : Nat} {d0 d : Array Int} (hb : blk < w.heap.size) (hH : Holds encInt w blk off d0) (hs : d.size = d0.size) : Cells (grow (putRow encInt (Go.Sort.ahead w n) blk off d) os) blk off (d.toList.map encInt) := by
  intro j u hj
  have hsz : (putRow encInt (Go.Sort.ahead w n) blk off d).heap.size = w.heap.size := by simp [putRow, mapBlock, Go.Sort.ahead]
  rw [cell?_grow _ _ _ (by rw [hsz]; exact hb)]
  simp only [List.getElem?_map, Option.map_eq_some_iff, Array.getElem?_toList] at hj
  obtain ⟨x, hx, rfl⟩ := hj
  obtain ⟨h1, h2⟩ := Array.getElem?_eq_some_iff.1 hx
  have h3 := (holds_putRow encInt (Go.Sort.ahead w n) blk off d0 d (holds_ahead encInt w n blk off d0 hH) hs) j h1
  rw [h3.1, getElem!_pos d j h1, h2]

theorem RL_ints_inv {C : Ctx} : ∀ {xs : List Int} {S : List Nat} {us : List Value}, RL C (ints xs) S us → S = [] ∧ us = xs.map encInt
  | [], S, us, h => by
    have h' : RL C [] S us := h
    rw [RL] at h'
    simpa using h'
  | x :: xs, S, us, h => by
    have h' : RL C (.v (.int .i64 x) :: ints xs) S us := h
    rw [RL] at h'
    obtain ⟨S1, S2, u, us', rfl, rfl, h1, h2⟩ := h'
    rw [R] at h1
    obtain ⟨rfl, rfl⟩ := h1
    obtain ⟨rfl, rfl⟩ := RL_ints_inv h2
    exact ⟨rfl, rfl⟩

/-- A row of numbers, lent: its place. -/
theorem lent_ints {w : World} {S : List Nat} {forb : Nat → Prop} {zs : List Int} {us : List Value} (hr : RL (cin w S forb) [.os 1 (ints zs)] S us) (hz : zs ≠ []) :
    ∃ b p cap, us = [.slice (some ⟨b, p, none⟩) zs.length cap] ∧ zs.length ≤ cap ∧ S = [b] ∧ b < w.heap.size ∧ Room w b p cap ∧ Holds encInt w b p zs.toArray := by
  rw [RL] at hr
  obtain ⟨S1, S2, u, us', hS, rfl, h1, h2⟩ := hr
  rw [RL] at h2
  obtain ⟨rfl, rfl⟩ := h2
  rw [List.append_nil] at hS
  subst hS
  rw [R] at h1
  obtain ⟨a, cap, rfl, hc, h1⟩ := h1
  rw [ints_length] at hc
  rcases h1 with ⟨h0, _⟩ | ⟨h0, b, p, vs, S', rfl, rfl, hb, hroom, hcells, _, hrl⟩
  · exact absurd (List.eq_nil_of_length_eq_zero (by omega)) hz
  · rw [flatE_ints] at hrl
    obtain ⟨rfl, rfl⟩ := RL_ints_inv hrl
    rw [Nat.mul_one] at hroom
    refine ⟨b, p, cap, by rw [ints_length], hc, rfl, hb, hroom, ?_⟩
    intro j hj
    have hj' : j < zs.length := by simpa using hj
    refine ⟨?_, (hroom j (by omega)).2⟩
    rw [getElem!_pos zs.toArray j hj]
    exact hcells j _ (by simp [hj'])

/-- A slice whose numbers are put in another order, or others, in place. -/
theorem arr_sound {P : Program} {f : Nat} {zs ys : List Int} (hl : ys.length = zs.length) (hz : zs ≠ [])
    (hc : ∀ (blk off cap : Nat) (w : World), Holds encInt w blk off zs.toArray → blk < w.heap.size →
      Calls P f #[.slice (some ⟨blk, off, none⟩) zs.length cap] w fun e w' => e = .returned (.tuple #[]) ∧ ∃ n os, w' = grow (putRow encInt (Go.Sort.ahead w n) blk off ys.toArray) os) :
    SoundAt P f [.os 1 (ints zs)] (.tup []) [.os 1 (ints ys)] := by
  intro w forb us S hr hnd hlt hforb
  obtain ⟨b, p, cap, rfl, hcap, rfl, hb, hroom, hH⟩ := lent_ints hr hz
  refine (hc b p cap w hH hb).mono ?_
  rintro e w' ⟨rfl, n, os, rfl⟩
  have hk := arr_kept (n := n) (os := os) (d := ys.toArray) hH (by simp [hl])
  have hsz : b < (grow (putRow encInt (Go.Sort.ahead w n) b p ys.toArray) os).heap.size := Nat.lt_of_lt_of_le hb hk.size
  refine ⟨_, [b], rfl, ?_, by simp, by simpa using hsz, hk⟩
  rw [RL]
  refine ⟨[], [b], _, _, rfl, rfl, by rw [R]; exact ⟨[], rfl, by rw [RL]; exact ⟨rfl, rfl⟩⟩, ?_⟩
  rw [RL]
  refine ⟨[b], [], _, _, rfl, rfl, ?_, by rw [RL]; exact ⟨rfl, rfl⟩⟩
  rw [R]
  refine ⟨some ⟨b, p, none⟩, cap, by rw [ints_length, hl], by rw [ints_length]; omega, .inr ⟨?_, b, p, ys.map encInt, [], rfl, rfl, hsz, ?_, ?_, sized_ints _, ?_⟩⟩
  · have : 0 < zs.length := List.length_pos_iff.2 hz
    omega
  · rw [Nat.mul_one]; exact hk.room _ _ _ hroom
  · have := arr_cells (n := n) (os := os) (d := ys.toArray) hb hH (by simp [hl])
    simpa [cout] using this
  · rw [flatE_ints]; exact RL_ints _ _

/-- A slice of which a beginning is left, in place. -/
theorem arr_pref {P : Program} {f : Nat} {zs ys rest : List Int} (hl : ys.length + rest.length = zs.length) (hz : zs ≠ [])
    (hc : ∀ (blk off cap : Nat) (w : World), Holds encInt w blk off zs.toArray → blk < w.heap.size → zs.length ≤ cap →
      Calls P f #[.slice (some ⟨blk, off, none⟩) zs.length cap] w fun e w' => e = .returned (.slice (some ⟨blk, off, none⟩) ys.length cap) ∧ ∃ n, w' = putRow encInt (Go.Sort.ahead w n) blk off (ys ++ rest).toArray) :
    SoundAt P f [.os 1 (ints zs)] (.os 1 (ints ys)) [.bot] := by
  intro w forb us S hr hnd hlt hforb
  obtain ⟨b, p, cap, rfl, hcap, rfl, hb, hroom, hH⟩ := lent_ints hr hz
  refine (hc b p cap w hH hb hcap).mono ?_
  rintro e w' ⟨rfl, n, rfl⟩
  have hg : putRow encInt (Go.Sort.ahead w n) b p (ys ++ rest).toArray = grow (putRow encInt (Go.Sort.ahead w n) b p (ys ++ rest).toArray) #[] := by rw [grow_empty]
  rw [hg]
  have hk := arr_kept (n := n) (os := #[]) (d := (ys ++ rest).toArray) hH (by simp [hl])
  have hsz : b < (grow (putRow encInt (Go.Sort.ahead w n) b p (ys ++ rest).toArray) #[]).heap.size := Nat.lt_of_lt_of_le hb hk.size
  refine ⟨_, [b], rfl, ?_, by simp, by simpa using hsz, hk⟩
  rw [RL]
  refine ⟨[b], [], _, _, rfl, rfl, ?_, by rw [RL]; exact ⟨[], [], _, _, rfl, rfl, by rw [R], by rw [RL]; exact ⟨rfl, rfl⟩⟩⟩
  rw [R]
  refine ⟨some ⟨b, p, none⟩, cap, by rw [ints_length], by rw [ints_length]; omega, .inr ⟨?_, b, p, ys.map encInt, [], rfl, rfl, hsz, ?_, ?_, sized_ints _, ?_⟩⟩
  · have : 0 < zs.length := List.length_pos_iff.2 hz
    omega
  · rw [Nat.mul_one]; exact hk.room _ _ _ hroom
  · have := arr_cells (n := n) (os := #[]) (d := (ys ++ rest).toArray) hb hH (by simp [hl])
    simp only [List.map_append] at this
    intro j u hj
    exact this j u (by rw [List.getElem?_append_left (List.getElem?_eq_some_iff.1 hj).1]; exact hj)
  · rw [flatE_ints]; exact RL_ints _ _

end Go.Proofs.Dev

namespace Go.Proofs
open Go.Shelf
set_option maxRecDepth 1000000
def Tryz.lays189_ren : Go.Shelf.Ren := ⟨fun | 189 => 65 | 125 => 91 | 257 => 90 | 128 => 110 | 129 => 111 | 294 => 101 | 295 => 102 | 296 => 103 | 297 => 104 | 298 => 105 | 299 => 106 | 216 => 107 | 300 => 108 | 301 => 109 | 328 => 115 | 329 => 116 | 330 => 117 | 331 => 118 | 332 => 119 | 215 => 120 | 343 => 121 | n => n, fun | 28 => 26 | 3 => 3 | 46 => 83 | 0 => 0 | 51 => 94 | 53 => 96 | 4 => 4 | 183 => 87 | 182 => 86 | 131 => 91 | 5 => 5 | 9 => 9 | 218 => 98 | 222 => 102 | 228 => 104 | 229 => 40 | n => n, fun | n => n⟩
theorem Tryz.lays189 : Go.Proofs.Lays.n189 Tryz.prog Tryz.lays189_ren := {
  mixed := by kernel_rfl
  f125 := Tryz.func91.trans (congrArg some (by kernel_rfl))
  f128 := Tryz.func110.trans (congrArg some (by kernel_rfl))
  f129 := Tryz.func111.trans (congrArg some (by kernel_rfl))
  f189 := Tryz.func65.trans (congrArg some (by kernel_rfl))
  f215 := Tryz.func120.trans (congrArg some (by kernel_rfl))
  f216 := Tryz.func107.trans (congrArg some (by kernel_rfl))
  f257 := Tryz.func90.trans (congrArg some (by kernel_rfl))
  f294 := Tryz.func101.trans (congrArg some (by kernel_rfl))
  f295 := Tryz.func102.trans (congrArg some (by kernel_rfl))
  f296 := Tryz.func103.trans (congrArg some (by kernel_rfl))
  f297 := Tryz.func104.trans (congrArg some (by kernel_rfl))
  f298 := Tryz.func105.trans (congrArg some (by kernel_rfl))
  f299 := Tryz.func106.trans (congrArg some (by kernel_rfl))
  f300 := Tryz.func108.trans (congrArg some (by kernel_rfl))
  f301 := Tryz.func109.trans (congrArg some (by kernel_rfl))
  f328 := Tryz.func115.trans (congrArg some (by kernel_rfl))
  f329 := Tryz.func116.trans (congrArg some (by kernel_rfl))
  f330 := Tryz.func117.trans (congrArg some (by kernel_rfl))
  f331 := Tryz.func118.trans (congrArg some (by kernel_rfl))
  f332 := Tryz.func119.trans (congrArg some (by kernel_rfl))
  f343 := Tryz.func121.trans (congrArg some (by kernel_rfl))
  t0 := Tryz.underlying0
  a0 := Tryz.isAgg0
  z0 := Tryz.sizeOf0
  v0 := Tryz.zeroValue0
  t3 := Tryz.underlying3
  a3 := Tryz.isAgg3
  z3 := Tryz.sizeOf3
  v3 := Tryz.zeroValue3
  t4 := Tryz.underlying4
  a4 := Tryz.isAgg4
  z4 := Tryz.sizeOf4
  v4 := Tryz.zeroValue4
  t5 := Tryz.underlying5
  a5 := Tryz.isAgg5
  z5 := Tryz.sizeOf5
  v5 := Tryz.zeroValue5
  t9 := Tryz.underlying9
  a9 := Tryz.isAgg9
  z9 := Tryz.sizeOf9
  v9 := Tryz.zeroValue9
  t28 := Tryz.underlying26
  a28 := Tryz.isAgg26
  z28 := Tryz.sizeOf26
  v28 := Tryz.zeroValue26
  t46 := Tryz.underlying83
  a46 := Tryz.isAgg83
  z46 := Tryz.sizeOf83
  v46 := Tryz.zeroValue83
  t51 := Tryz.underlying94
  a51 := Tryz.isAgg94
  z51 := Tryz.sizeOf94
  v51 := Tryz.zeroValue94
  t53 := Tryz.underlying96
  a53 := Tryz.isAgg96
  z53 := Tryz.sizeOf96
  v53 := Tryz.zeroValue96
  t131 := Tryz.underlying91
  a131 := Tryz.isAgg91
  z131 := Tryz.sizeOf91
  v131 := Tryz.zeroValue91
  t182 := Tryz.underlying86
  a182 := Tryz.isAgg86
  z182 := Tryz.sizeOf86
  v182 := Tryz.zeroValue86
  t183 := Tryz.underlying87
  a183 := Tryz.isAgg87
  z183 := Tryz.sizeOf87
  v183 := Tryz.zeroValue87
  t218 := Tryz.underlying98
  a218 := Tryz.isAgg98
  z218 := Tryz.sizeOf98
  v218 := Tryz.zeroValue98
  t222 := Tryz.underlying102
  a222 := Tryz.isAgg102
  z222 := Tryz.sizeOf102
  v222 := Tryz.zeroValue102
  t228 := Tryz.underlying104
  a228 := Tryz.isAgg104
  z228 := Tryz.sizeOf104
  v228 := Tryz.zeroValue104
  t229 := Tryz.underlying40
  a229 := Tryz.isAgg40
  z229 := Tryz.sizeOf40
  v229 := Tryz.zeroValue40 }
open Go.Sort Go.RowKit in
theorem Tryz.slices_Sort_int (blk off cap : Nat) (zs : List Int) (w : World) (hH : Holds (Value.int .i64) w blk off zs.toArray) (hblk : blk < w.heap.size) (hsz : zs.length < 4611686018427387904) :
    Calls Tryz.prog 65 #[.slice (some ⟨blk, off, none⟩) zs.length cap] w fun e w' =>
      e = .returned (.tuple #[]) ∧ ∃ n os, w' = grow (putRow (Value.int .i64) (Sort.ahead w n) blk off (zs.mergeSort fun x y => decide (x ≤ y)).toArray) os := Any.slices_Sort_int Tryz.lays189 blk off cap zs w hH hblk hsz
def Tryz.laysNm220_ren : Go.Shelf.Ren := ⟨fun | 20 => 66 | n => n, fun | 22 => 26 | 3 => 3 | 4 => 4 | 0 => 0 | n => n, fun | n => n⟩
theorem Tryz.laysNm220 : Go.Proofs.Lays2.n20 Tryz.prog Tryz.laysNm220_ren := {
  mixed := by kernel_rfl
  f20 := Tryz.func66.trans (congrArg some (by kernel_rfl))
  t0 := Tryz.underlying0
  a0 := Tryz.isAgg0
  z0 := Tryz.sizeOf0
  v0 := Tryz.zeroValue0
  t3 := Tryz.underlying3
  a3 := Tryz.isAgg3
  z3 := Tryz.sizeOf3
  v3 := Tryz.zeroValue3
  t4 := Tryz.underlying4
  a4 := Tryz.isAgg4
  z4 := Tryz.sizeOf4
  v4 := Tryz.zeroValue4
  t22 := Tryz.underlying26
  a22 := Tryz.isAgg26
  z22 := Tryz.sizeOf26
  v22 := Tryz.zeroValue26
  i3 := by kernel_rfl }
open Go.RowKit Go.Lib Go.Sort in
open Go.RowKit Go.Lib Go.Sort in
/-- slices.Compact at []int: "Compact replaces consecutive runs of equal elements with a single copy. This is like the uniq command found on Unix. Compact modifies the contents of the slice s and returns the modified slice, which may have a smaller length. Compact zeroes the elements between the new length and the original length. The result preserves the nilness of s.": IT RETURNS THE SLICE CUT TO 'Lib.compact zs'; ITS CELLS HOLD 'Lib.compact zs', THEN ZERO VALUES up to the old length; all else is as it was, but for the count of draws. IN THE WORDS OF slices.Sort's CONTRACT ('Holds', 'putRow'): so the everyday 'slices.Sort(xs); xs = slices.Compact(xs)' goes from the one contract to the other. It asks 'zs.length ≤ cap' (every slice's: the reslicing 's[:k]' looks at it). Length 0, nil: '.._empty'. (LAID: no walk: one application.) -/
theorem Tryz.slices_Compact_int (blk off cap : Nat) (zs : List Int) (w : World) (hH : Holds (Value.int .i64) w blk off zs.toArray) (hsz : zs.length ≤ 9223372036854775807) (hcap : zs.length ≤ cap) :
    Calls Tryz.prog 66 #[.slice (some ⟨blk, off, none⟩) zs.length cap] w fun e w' => e = .returned (.slice (some ⟨blk, off, none⟩) (Lib.compact zs).length cap) ∧ ∃ q, w' = putRow (Value.int .i64) (Sort.ahead w q) blk off (Lib.compact zs ++ List.replicate (zs.length - (Lib.compact zs).length) 0).toArray := Any.slices_Compact_int Tryz.laysNm220 blk off cap zs w hH hsz hcap
open Go.RowKit Go.Lib Go.Sort in
/-- The same at a slice of length 0, a nil one too: it comes back as it is. (LAID: no walk: one application.) -/
theorem Tryz.slices_Compact_int_empty (a : Option Addr) (cap : Nat) (w : World) :
    Calls Tryz.prog 66 #[.slice a 0 cap] w fun e w' => e = .returned (.slice a 0 cap) ∧ w' = w := Any.slices_Compact_int_empty Tryz.laysNm220 a cap w

end Go.Proofs
