/- Contracts of the functions of the program over slots and rows, each proved against the program itself; no condition beyond those that each theorem names. -/
import Derived.Test.YtiolbpmhnlmmdaaDoorAI
import Derived.Test.YtiolbpmhnlmmdaaDoorAH
import Derived.ChangeMaps5
import Derived.Shelf.Strings.Builder1
import Derived.Shelf.Strings.Builder2
import Derived.Shelf.Strings.OnBuilder
import Derived.Test.YtiolbpmhnlmmdaaDoorProg

set_option linter.unusedSimpArgs false
set_option linter.unusedVariables false

namespace Go.Proofs.Dev
set_option linter.unusedSimpArgs false
set_option maxRecDepth 100000

@[simp] def md0 (f : Nat) : List Bool := if f = 22 ∨ f = 23 ∨ f = 55 ∨ f = 999999 ∨ f = 999999 then [true, false] else if f = 999999 ∨ f = 999999 ∨ f = 999999 ∨ f = 999999 ∨ f = 999999 then [true] else []

def marksB (n : Nat) (k : Int) : List Bool := (List.range n).map fun (j : Nat) => (k + j) % 3 == 0
def marksI (n : Nat) (k : Int) : List Int := (List.range n).map fun (j : Nat) => k + j

@[simp] theorem marksI_length (n : Nat) (k : Int) : (marksI n k).length = n := by simp [marksI]
@[simp] theorem marksB_length (n : Nat) (k : Int) : (marksB n k).length = n := by simp [marksB]

@[simp] theorem take_marksI (n : Nat) (k : Int) : (ints (marksI n k)).take n = ints (marksI n k) := by
  have := take_ints_all (marksI n k)
  rwa [marksI_length] at this
@[simp] theorem take_marksB (n : Nat) (k : Int) : (bools (marksB n k)).take n = bools (marksB n k) := by
  have := take_bools_all (marksB n k)
  rwa [marksB_length] at this

end Go.Proofs.Dev

namespace Go.Proofs.Dev
set_option linter.unusedSimpArgs false
set_option maxRecDepth 100000

theorem s_spec_l1In (x lo hi : Int) : SoundAt Tryd.prog n_spec_l1In [.v (.int .i64 x), .v (.int .i64 lo), .v (.int .i64 hi)] (.v (.bool (decide (lo ≤ x ∧ x ≤ hi)))) [.bot, .bot, .bot] := by
  refine fn_ok (md := md0) (ms := [false, false, false]) k_spec_l1In (by simp) ?_
  simp [c_spec_l1In]
  constructor
  · intro h; simp [h]
  · intro h; omega

end Go.Proofs.Dev

namespace Go.Proofs.Dev
set_option linter.unusedSimpArgs false
set_option maxRecDepth 100000

end Go.Proofs.Dev

namespace Go.Proofs.Dev
set_option linter.unusedSimpArgs false
set_option maxRecDepth 100000

end Go.Proofs.Dev

namespace Go.Proofs.Dev
set_option linter.unusedSimpArgs false
set_option maxRecDepth 100000

end Go.Proofs.Dev

namespace Go.Proofs.Dev
set_option linter.unusedSimpArgs false
set_option maxRecDepth 100000

theorem s_impl_in (x lo hi : Int) : SoundAt Tryd.prog n_impl_in [.v (.int .i64 x), .v (.int .i64 lo), .v (.int .i64 hi)] (.v (.bool (decide (lo ≤ x ∧ x ≤ hi)))) [.bot, .bot, .bot] := by
  refine fn_ok (md := md0) (ms := [false, false, false]) k_impl_in (by simp) ?_
  simp [c_impl_in]
  constructor
  · intro h; simp [h]
  · intro h; omega

end Go.Proofs.Dev

namespace Go.Proofs.Dev
set_option linter.unusedSimpArgs false
set_option maxRecDepth 100000

@[simp] def mdT (_ : Nat) : List Bool := []

theorem numT_lo {n : Int} (h : n < 10) : numT n = [b8 (48 + n)] := by simp [numT, h]
theorem numT_hi {n : Int} (h : ¬ n < 10) : numT n = [b8 (48 + n / 10), b8 (48 + n % 10)] := by simp [numT, h]

theorem num_lo (n : Int) (h0 : 0 ≤ n) (h1 : n < 10) : SoundAt Tryd.prog n_spec_l1Number [.v (.int .i64 n)] (.v (tx (numT n))) [.bot] := by
  refine fn_ok (md := mdT) (ms := [false]) k_spec_l1Number (by simp) ?_
  have hn : ¬ n < 0 := by omega
  simp [c_spec_l1Number, hn, h1, numT_lo h1, b8, astr, u8L]
  omega

theorem s_spec_l1Number (n : Int) (h0 : 0 ≤ n) (h1 : n < 100) : SoundAt Tryd.prog n_spec_l1Number [.v (.int .i64 n)] (.v (tx (numT n))) [.bot] := by
  by_cases h : n < 10
  · exact num_lo n h0 h
  refine fn_ok (md := mdT) (ms := [false]) k_spec_l1Number (by simp) ?_
  have hn : ¬ n < 0 := by omega
  have c := num_lo (n / 10) (by omega) (by omega)
  rw [numT_lo (by omega)] at c
  simp [c_spec_l1Number, hn, h, astr, u8L]
  (repeat' first | omega | apply And.intro) <;>
  · refine call_on c ?_
    simp [h, numT_hi h, b8, astr, u8L]
    try omega

end Go.Proofs.Dev

namespace Go.Proofs.Dev
set_option linter.unusedSimpArgs false
set_option maxRecDepth 100000

def deedA (d : Int × Int × Int) : AV := .agg [.v (.int .i64 d.1), .v (.int .i64 d.2.1), .v (.int .i64 d.2.2)]

theorem s_impl_Deed_needs (d : Int × Int × Int) : SoundAt Tryd.prog n_impl_Deed_needs [deedA d] (.v (.bool (needD d))) [.bot] := by
  obtain ⟨k, s, w⟩ := d
  refine fn_ok (md := mdT) (ms := [false]) k_impl_Deed_needs (by simp [deedA]) ?_
  by_cases h0 : k = 0 <;> by_cases h1 : k = 1 <;> by_cases h2 : k = 2 <;> by_cases h3 : k = 3 <;> by_cases h4 : k = 4 <;> by_cases hs : s = 0 <;> by_cases hw : w = 0 <;> first | (exfalso; omega) | (simp [c_impl_Deed_needs, deedA, needD, h0, h1, h2, h3, h4, hs, hw])

theorem s_spec_l10Named (d : Int × Int × Int) : SoundAt Tryd.prog n_spec_l10Named [deedA d] (.v (.bool (needD d))) [.bot] := by
  obtain ⟨k, s, w⟩ := d
  refine fn_ok (md := mdT) (ms := [false]) k_spec_l10Named (by simp [deedA]) ?_
  by_cases h0 : k = 0 <;> by_cases h1 : k = 1 <;> by_cases h2 : k = 2 <;> by_cases h3 : k = 3 <;> by_cases h4 : k = 4 <;> by_cases hs : s = 0 <;> by_cases hw : w = 0 <;> first | (exfalso; omega) | (simp [c_spec_l10Named, deedA, needD, h0, h1, h2, h3, h4, hs, hw])

abbrev digL : List UInt8 := [48, 49, 50, 51, 52, 53, 54, 55, 56, 57, 97, 98, 99, 100, 101, 102, 103, 104, 105, 106, 107, 108, 109, 110, 111, 112, 113, 114, 115, 116, 117, 118, 119, 120, 121, 122]
theorem small_lo : ∀ n : _root_.Fin 10, List.take (n.val + 1 - n.val) (List.drop n.val digL) = numT n.val := by decide +kernel
abbrev smalL : List UInt8 := [48, 48, 48, 49, 48, 50, 48, 51, 48, 52, 48, 53, 48, 54, 48, 55, 48, 56, 48, 57, 49, 48, 49, 49, 49, 50, 49, 51, 49, 52, 49, 53, 49, 54, 49, 55, 49, 56, 49, 57, 50, 48, 50, 49, 50, 50, 50, 51, 50, 52, 50, 53, 50, 54, 50, 55, 50, 56, 50, 57, 51, 48, 51, 49, 51, 50, 51, 51, 51, 52, 51, 53, 51, 54, 51, 55, 51, 56, 51, 57, 52, 48, 52, 49, 52, 50, 52, 51, 52, 52, 52, 53, 52, 54, 52, 55, 52, 56, 52, 57, 53, 48, 53, 49, 53, 50, 53, 51, 53, 52, 53, 53, 53, 54, 53, 55, 53, 56, 53, 57, 54, 48, 54, 49, 54, 50, 54, 51, 54, 52, 54, 53, 54, 54, 54, 55, 54, 56, 54, 57, 55, 48, 55, 49, 55, 50, 55, 51, 55, 52, 55, 53, 55, 54, 55, 55, 55, 56, 55, 57, 56, 48, 56, 49, 56, 50, 56, 51, 56, 52, 56, 53, 56, 54, 56, 55, 56, 56, 56, 57, 57, 48, 57, 49, 57, 50, 57, 51, 57, 52, 57, 53, 57, 54, 57, 55, 57, 56, 57, 57]
theorem small_hi : ∀ n : _root_.Fin 100, (if n.val < 10 then true else decide (List.take (n.val * 2 + 2 - n.val * 2) (List.drop (n.val * 2) smalL) = numT n.val)) = true := by decide +kernel

theorem s_small (n : Nat) (h1 : n < 100) : SoundAt Tryd.prog n_internalstrconv_small [.v (.int .i64 (n : Int))] (.v (tx (numT n))) [.bot] := by
  refine fn_ok (md := mdT) (ms := [false]) k_internalstrconv_small (by simp) ?_
  by_cases h : n < 10
  · have e : (n : Int) < 10 := by omega
    have t := small_lo ⟨n, h⟩
    have e1 : ((n : Int) + 1).toNat = n + 1 := by omega
    simp only at t
    rw [← t]
    have p1 : (0 : Int) ≤ (n : Int) + 1 := by omega
    have p2 : n + 1 ≤ 36 := by omega
    simp [c_internalstrconv_small, e, e1, p1, p2]
    omega
  · have e : ¬ (n : Int) < 10 := by omega
    have t := small_hi ⟨n, h1⟩
    rw [if_neg h] at t
    have t' := of_decide_eq_true t
    have e1 : ((n : Int) * 2).toNat = n * 2 := by omega
    have e2 : ((n : Int) * 2 + 2).toNat = n * 2 + 2 := by omega
    rw [← t']
    have p1 : (0 : Int) ≤ (n : Int) * 2 + 2 := by omega
    have p0 : (0 : Int) ≤ (n : Int) * 2 := by omega
    have p2 : n * 2 + 2 ≤ 200 := by omega
    simp [c_internalstrconv_small, e, e1, e2, p0, p1, p2]
    omega

theorem s_FormatInt (n : Nat) (h1 : n < 100) : SoundAt Tryd.prog n_internalstrconv_FormatInt [.v (.int .i64 (n : Int)), .v (.int .i64 10)] (.v (tx (numT n))) [.bot, .bot] := by
  refine fn_ok (md := mdT) (ms := [false, false]) k_internalstrconv_FormatInt (by simp) ?_
  have e : (n : Int) < 100 := by omega
  have e0 : (0 : Int) ≤ n := by omega
  simp [c_internalstrconv_FormatInt, e, e0]
  refine call_on (s_small n h1) ?_
  simp

theorem s_Itoa0 (n : Nat) (h1 : n < 100) : SoundAt Tryd.prog n_internalstrconv_Itoa [.v (.int .i64 (n : Int))] (.v (tx (numT n))) [.bot] := by
  refine fn_ok (md := mdT) (ms := [false]) k_internalstrconv_Itoa (by simp) ?_
  simp [c_internalstrconv_Itoa]
  refine call_on (s_FormatInt n h1) ?_
  simp

theorem s_strconv_Itoa (n : Int) (h0 : 0 ≤ n) (h1 : n < 100) : SoundAt Tryd.prog n_strconv_Itoa [.v (.int .i64 n)] (.v (tx (numT n))) [.bot] := by
  obtain ⟨k, rfl⟩ : ∃ k : Nat, n = k := ⟨n.toNat, by omega⟩
  refine fn_ok (md := mdT) (ms := [false]) k_strconv_Itoa (by simp) ?_
  simp [c_strconv_Itoa]
  refine call_on (s_Itoa0 k (by omega)) ?_
  simp

theorem s_spec_l10Letter (w : Int) : SoundAt Tryd.prog n_spec_l10Letter [.v (.int .i64 w)] (.v (tx (letT w))) [.bot] := by
  refine fn_ok (md := mdT) (ms := [false]) k_spec_l10Letter (by simp) ?_
  simp [c_spec_l10Letter]
  refine call_on (s_spec_l1In w 1 4) ?_
  by_cases h1 : w = 1
  · subst h1; simp [letT]
  by_cases h2 : w = 2
  · subst h2; simp [letT]
  by_cases h3 : w = 3
  · subst h3; simp [letT]
  by_cases h4 : w = 4
  · subst h4; simp [letT]
  have h : ¬ (1 ≤ w ∧ w ≤ 4) := by omega
  simp [letT, h1, h2, h3, h4, h]

end Go.Proofs.Dev

namespace Go.Proofs.Dev
set_option linter.unusedSimpArgs false
set_option maxRecDepth 100000

theorem dText_no {d : Int × Int × Int} (h : txtOk d = false) : dText d = [] := by simp [dText, h]
theorem need_kind {k s w : Int} (h : needD (k, s, w) = true) : k = 0 ∨ k = 1 ∨ k = 2 ∨ k = 3 ∨ k = 4 := by
  simp only [needD] at h
  split at h
  · left; assumption
  · split at h
    · rename_i h2; rcases h2 with h2 | h2 <;> simp [h2]
    · split at h
      · rename_i h2; rcases h2 with h2 | h2 <;> simp [h2]
      · cases h
theorem numT_le (n : Int) : (numT n).length ≤ 2 := by unfold numT; split <;> simp
theorem letT_le (n : Int) : (letT n).length ≤ 1 := by unfold letT; (repeat' split) <;> simp
theorem letT_nil (w : Int) : letT w = [] ↔ ¬ (1 ≤ w ∧ w ≤ 4) := by
  unfold letT
  by_cases h1 : w = 1
  · simp [h1]
  by_cases h2 : w = 2
  · simp [h2]
  by_cases h3 : w = 3
  · simp [h3]
  by_cases h4 : w = 4
  · simp [h4]
  simp [h1, h2, h3, h4]
  omega

set_option maxHeartbeats 4000000 in
theorem s_spec_DeedText (d : Int × Int × Int) : SoundAt Tryd.prog n_spec_DeedText [deedA d] (.v (tx (dText d))) [.bot] := by
  obtain ⟨k, s, w⟩ := d
  have nd := s_spec_l10Named (k, s, w)
  simp only [deedA] at nd
  have li := s_spec_l1In s 0 99
  have le := s_spec_l10Letter w
  refine fn_ok (md := mdT) (ms := [false]) k_spec_DeedText (by simp [deedA]) ?_
  cases hn : needD (k, s, w) with
  | false =>
    rw [hn] at nd
    rw [dText_no (by simp [txtOk, hn])]
    simp [c_spec_DeedText, deedA]
    refine call_on nd ?_
    simp
  | true =>
  rw [hn] at nd
  by_cases hs : 0 ≤ s ∧ s ≤ 99
  case neg =>
    rw [dText_no (by simp [txtOk, hs])]
    simp [c_spec_DeedText, deedA]
    refine call_on nd ?_
    simp
    refine call_on li ?_
    simp [hs]
  have nu := s_spec_l1Number s hs.1 (by omega)
  have n2 := numT_le s
  have l1 := letT_le w
  have lk := need_kind hn
  simp [c_spec_DeedText, deedA]
  refine call_on nd ?_
  simp
  refine call_on li ?_
  simp [hs]
  rcases lk with rfl | rfl | rfl | rfl | rfl
  · simp
    refine call_on nu ?_
    simp
    refine ⟨by omega, ?_⟩
    refine call_on le ?_
    by_cases hw : 1 ≤ w ∧ w ≤ 4
    · have hne : letT w ≠ [] := by rw [Ne, letT_nil]; simpa using hw
      have e : dText (0, s, w) = wordK 0 ++ (32 :: numT s ++ 32 :: letT w) := by simp [dText, txtOk, hn, hs, hw]
      rw [e]
      simp [hne]
      refine ⟨by omega, ?_⟩
      refine call_on le ?_
      simp [wordK]
      omega
    · have hne : letT w = [] := by rw [letT_nil]; exact hw
      rw [dText_no (by simp [txtOk, hw])]
      simp [hne]
  all_goals
    have e := hn
    simp [needD] at e
  · have e' : dText (1, s, w) = wordK 1 ++ 32 :: numT s := by simp [dText, txtOk, hn, hs]
    rw [e']
    simp
    refine call_on nu ?_
    simp [wordK]
    omega
  · have e' : dText (2, s, w) = wordK 2 ++ 32 :: numT s := by simp [dText, txtOk, hn, hs]
    rw [e']
    simp
    refine call_on nu ?_
    simp [wordK]
    omega
  · have e' : dText (3, s, w) = wordK 3 := by simp [dText, txtOk, hn, hs]
    rw [e']
    simp [wordK]
  · have e' : dText (4, s, w) = wordK 4 := by simp [dText, txtOk, hn, hs]
    rw [e']
    simp [wordK]

set_option maxHeartbeats 4000000 in
theorem s_impl_DeedText (d : Int × Int × Int) : SoundAt Tryd.prog n_impl_DeedText [deedA d] (.v (tx (dText d))) [.bot] := by
  obtain ⟨k, s, w⟩ := d
  have nd := s_impl_Deed_needs (k, s, w)
  simp only [deedA] at nd
  have li := s_impl_in s 0 99
  have lw := s_impl_in w 1 4
  refine fn_ok (md := mdT) (ms := [false]) k_impl_DeedText (by simp [deedA]) ?_
  cases hn : needD (k, s, w) with
  | false =>
    rw [hn] at nd
    rw [dText_no (by simp [txtOk, hn])]
    simp [c_impl_DeedText, deedA]
    refine call_on nd ?_
    simp
  | true =>
  rw [hn] at nd
  by_cases hs : 0 ≤ s ∧ s ≤ 99
  case neg =>
    rw [dText_no (by simp [txtOk, hs])]
    simp [c_impl_DeedText, deedA]
    refine call_on nd ?_
    simp
    refine call_on li ?_
    simp [hs]
  have nu := s_strconv_Itoa s hs.1 (by omega)
  have n2 := numT_le s
  have lk := need_kind hn
  simp [c_impl_DeedText, deedA]
  refine call_on nd ?_
  simp
  refine call_on li ?_
  simp [hs]
  rcases lk with rfl | rfl | rfl | rfl | rfl
  · simp [aiadr]
    refine call_on lw ?_
    by_cases hw : 1 ≤ w ∧ w ≤ 4
    · have e : dText (0, s, w) = wordK 0 ++ (32 :: numT s ++ 32 :: letT w) := by simp [dText, txtOk, hn, hs, hw]
      rw [e]
      have h4 : w = 1 ∨ w = 2 ∨ w = 3 ∨ w = 4 := by omega
      simp [hw, aiadr]
      refine call_on nu ?_
      rcases h4 with rfl | rfl | rfl | rfl <;>
      · simp [wordK, letT]
        omega
    · rw [dText_no (by simp [txtOk, hw])]
      simp [hw]
  all_goals
    have e := hn
    simp [needD] at e
  · have e' : dText (1, s, w) = wordK 1 ++ 32 :: numT s := by simp [dText, txtOk, hn, hs]
    rw [e']
    simp [aiadr]
    refine call_on nu ?_
    simp [wordK]
    omega
  · have e' : dText (2, s, w) = wordK 2 ++ 32 :: numT s := by simp [dText, txtOk, hn, hs]
    rw [e']
    simp [aiadr]
    refine call_on nu ?_
    simp [wordK]
    omega
  · have e' : dText (3, s, w) = wordK 3 := by simp [dText, txtOk, hn, hs]
    rw [e']
    simp [wordK, aiadr]
  · have e' : dText (4, s, w) = wordK 4 := by simp [dText, txtOk, hn, hs]
    rw [e']
    simp [wordK, aiadr]

theorem s_laws_toDeed (d : Int × Int × Int) : SoundAt Tryd.prog n_laws_toDeed [deedA d] (deedA d) [.bot] := by
  obtain ⟨k, s, w⟩ := d
  refine fn_ok (md := mdT) (ms := [false]) k_laws_toDeed (by simp [deedA]) ?_
  simp [c_laws_toDeed, deedA]

end Go.Proofs.Dev

namespace Go.Proofs.Dev
open Go.RowKit
set_option linter.unusedSimpArgs false
set_option maxRecDepth 100000

theorem s_laws_eqDeed (a b : Int × Int × Int) : SoundAt Tryd.prog n_laws_eqDeed [deedA a, deedA b] (.v (.bool (decide (a = b)))) [.bot, .bot] := by
  obtain ⟨a1, a2, a3⟩ := a
  obtain ⟨b1, b2, b3⟩ := b
  refine fn_ok (md := mdT) (ms := [false, false]) k_laws_eqDeed (by simp [deedA]) ?_
  by_cases h1 : a1 = b1 <;> by_cases h2 : a2 = b2 <;> by_cases h3 : a3 = b3 <;> simp [c_laws_eqDeed, deedA, h1, h2, h3]

end Go.Proofs.Dev

namespace Go.Proofs.Dev
set_option linter.unusedSimpArgs false
set_option maxRecDepth 100000

@[simp] def mdJ (f : Nat) : List Bool := if f = n_laws_markDeedS then [true, false] else if f = n_slices_Clip_impl_Deed_impl_Deed then [true] else []

def dsA (xs : List (Int × Int × Int)) : List AV := xs.map deedA
@[simp] theorem dsA_length (xs : List (Int × Int × Int)) : (dsA xs).length = xs.length := by simp [dsA]
@[simp] theorem dsA_nil : dsA [] = [] := rfl
theorem dsA_get {xs : List (Int × Int × Int)} {i : Nat} (h : i < xs.length) : (dsA xs)[i]? = some (deedA xs[i]) := by simp [dsA, h]
@[simp] theorem dsA_getE {xs : List (Int × Int × Int)} {i : Nat} (h : i < (dsA xs).length) : (dsA xs)[i] = deedA (xs[i]'(by simpa using h)) := by simp [dsA]

def deedC (d : Int × Int × Int) : List AV := [.v (.int .i64 d.1), .v (.int .i64 d.2.1), .v (.int .i64 d.2.2)]
theorem aiadr_ds {c : Nat} {k : IntKind} {xs : List (Int × Int × Int)} {i : Nat} (h : i < xs.length) : aiadr 3 (.sl c 3 (dsA xs)) (.v (.int k (i : Int))) = some (.vp c (deedC xs[i]) 0) := by
  rw [aiadr_sl (dsA_get h)]; rfl

theorem s_laws_eqDeedS (xs ys : List (Int × Int × Int)) (ha : xs.length < 2 ^ 40) :
    SoundAt Tryd.prog n_laws_eqDeedS [.sl 1 3 (dsA xs), .sl 1 3 (dsA ys)] (.v (.bool (decide (xs = ys)))) [.bot, .bot] := by
  refine fn_ok (md := mdJ) (ms := [false, false]) k_laws_eqDeedS (by simp) ?_
  simp [c_laws_eqDeedS]
  refine ⟨fun h => ?_, fun hl => ?_⟩
  · intro e; subst e; exact h rfl
  refine loop_by (fun m E H => ∃ i : Nat, m = xs.length - i ∧ i ≤ xs.length ∧ xs.take i = ys.take i ∧ H = [] ∧ E = [(0, .sl 1 3 (dsA xs)), (1, .sl 1 3 (dsA ys)), (5, .v (.int .i64 i))]) xs.length ⟨0, by simp⟩ ?_
  rintro J hJ m E H ⟨i, rfl, hi, he, rfl, rfl⟩
  simp [c_laws_eqDeedS_L0]
  refine ⟨fun h => ?_, fun h => ?_⟩
  · have h2 : i < ys.length := by omega
    simp [h, h2, aiadr_ds, deedC]
    have key : xs[i] = ys[i] → xs.take (i + 1) = ys.take (i + 1) := by
      intro e
      rw [List.take_succ_eq_append_getElem h, List.take_succ_eq_append_getElem h2, he, e]
    have key2 : ¬ (xs[i] = ys[i]) → xs ≠ ys := fun e e2 => e (by subst e2; rfl)
    refine ⟨?_, ?_⟩ <;>
    · refine call_on (s_laws_eqDeed xs[i] ys[i]) ?_
      by_cases e : xs[i] = ys[i]
      · simp [e, deedA]
        exact ⟨by omega, _, by omega, hJ _ _ _ ⟨i + 1, rfl, h, key e, rfl, rfl⟩⟩
      · simp [e, deedA]
        exact key2 e
  · have h1 : i = xs.length := by omega
    subst h1
    rw [List.take_length] at he
    rw [he]
    exact List.take_of_length_le (by omega)

def marks3 (n : Nat) (k : Int) : List (Int × Int × Int) := (List.range n).map fun j : Nat => (k + 3 * j, k + 3 * j + 1, k + 3 * j + 2)
@[simp] theorem marks3_length (n : Nat) (k : Int) : (marks3 n k).length = n := by simp [marks3]
theorem dsA_set (xs : List (Int × Int × Int)) (i : Nat) (d : Int × Int × Int) : (dsA xs).set i (deedA d) = dsA (xs.set i d) := by simp [dsA, List.map_set]
theorem dsA_set' (xs : List (Int × Int × Int)) (i : Nat) (a b c : Int) : (dsA xs).set i (.agg [.v (.int .i64 a), .v (.int .i64 b), .v (.int .i64 c)]) = dsA (xs.set i (a, b, c)) := dsA_set xs i (a, b, c)
end Go.Proofs.Dev

namespace Go.Proofs.YtiolbpmhnlmmdaaDoor
open Go.ChangeShapes Go.WideShapes Go.ChangeAt Go.RowKit Go.Proofs.Dev

theorem rDeeds : Tryd.prog.readableRec 28 = true := by kernel_rfl
def dsV : List (Int × Int × Int) → List Value
  | [] => []
  | d :: xs => .int .i64 d.1 :: .int .i64 d.2.1 :: .int .i64 d.2.2 :: dsV xs

theorem flatE_ds_cons (d : Int × Int × Int) (xs : List (Int × Int × Int)) : flatE (dsA (d :: xs)) = .v (.int .i64 d.1) :: .v (.int .i64 d.2.1) :: .v (.int .i64 d.2.2) :: flatE (dsA xs) := rfl

theorem RL_dsV (C : Ctx) : ∀ xs : List (Int × Int × Int), RL C (flatE (dsA xs)) [] (dsV xs)
  | [] => by show RL C [] [] []; rw [RL]; exact ⟨rfl, rfl⟩
  | d :: xs => by
    rw [flatE_ds_cons, dsV]
    rw [RL]; refine ⟨[], [], _, _, rfl, rfl, by rw [R]; exact ⟨rfl, rfl⟩, ?_⟩
    rw [RL]; refine ⟨[], [], _, _, rfl, rfl, by rw [R]; exact ⟨rfl, rfl⟩, ?_⟩
    rw [RL]; exact ⟨[], [], _, _, rfl, rfl, by rw [R]; exact ⟨rfl, rfl⟩, RL_dsV C xs⟩

theorem sized_ds (xs : List (Int × Int × Int)) : Sized 3 (dsA xs) := by
  intro e he
  obtain ⟨d, _, rfl⟩ := List.mem_map.1 he
  rfl

theorem cells_dsV {w : World} {b : Nat} : ∀ (xs : List (Int × Int × Int)) (p : Nat), (∀ i (h : i < xs.length), w.cell? ⟨b, p + i * 3, none⟩ = some (.int .i64 xs[i].1) ∧ w.cell? ⟨b, p + i * 3 + 1, none⟩ = some (.int .i64 xs[i].2.1) ∧ w.cell? ⟨b, p + i * 3 + 2, none⟩ = some (.int .i64 xs[i].2.2)) → Cells w b p (dsV xs)
  | [], p, _ => by intro j u hj; simp [dsV] at hj
  | d :: xs, p, h => by
    intro j u hj
    obtain ⟨h0, h1, h2⟩ := h 0 (by simp)
    simp only [Nat.zero_mul, Nat.add_zero, List.getElem_cons_zero] at h0 h1 h2
    match j, hj with
    | 0, hj => simp only [dsV, List.getElem?_cons_zero, Option.some.injEq] at hj; subst hj; exact h0
    | 1, hj => simp only [dsV, List.getElem?_cons_succ, List.getElem?_cons_zero, Option.some.injEq] at hj; subst hj; exact h1
    | 2, hj => simp only [dsV, List.getElem?_cons_succ, List.getElem?_cons_zero, Option.some.injEq] at hj; subst hj; exact h2
    | j + 3, hj =>
      simp only [dsV, List.getElem?_cons_succ] at hj
      have := cells_dsV xs (p + 3) (fun i hi => by
        obtain ⟨a, b', c⟩ := h (i + 1) (by simp; omega)
        simp only [List.getElem_cons_succ] at a b' c
        rw [show p + (i + 1) * 3 = p + 3 + i * 3 by omega] at a b' c
        exact ⟨a, b', c⟩) j u hj
      rw [show p + (j + 3) = p + 3 + j by omega]
      exact this

theorem read_deeds {P : Program} {W : World} {H : Type} {enc : TypeId × Value → H} {t e : TypeId} {f0 f1 f2 : Field} {v : Value} {d : DataW H} {p : List MemPlace} {base : Nat} (ht : P.underlying t = some (.slice e)) (hs : P.underlying e = some (.struct #[f0, f1, f2])) (hC : P.cellsOf e = 3)
    (o0 : f0.offset = 0) (o1 : f1.offset = 1) (o2 : f2.offset = 2) (d0 : P.cellsOf f0.type = 1) (d1 : P.cellsOf f1.type = 1) (d2 : P.cellsOf f2.type = 1)
    (h0 : P.underlying f0.type = some (.int .i64)) (h1 : P.underlying f1.type = some (.int .i64)) (h2 : P.underlying f2.type = some (.int .i64))
    (hv : Value.okWide P W .any base t v) (h : DataW.Trod enc P W 0 (fun _ => true) true t v d p) :
    ∃ xs : List (Int × Int × Int), xs.length ≤ maxLen ∧ (∀ d ∈ xs, d.2.1 ≤ 9223372036854775807) ∧ R (cin W [] fun _ => False) (.sl 1 3 (dsA xs)) [] v := by
  obtain ⟨a0, len0, cap0, rfl⟩ := okWide_slice ht hv
  obtain ⟨fuel, hf0⟩ := h
  have hf : DataW.trod enc P W 0 (fun _ => true) true fuel t [.slice a0 len0 cap0] = some (d, p) := hf0
  rcases Go.Deep.open_slice ht hf with ⟨hcs, hx⟩ | ⟨a, len, cap, m, n, D, Pl, hcs, _, hl, hm, hmm, hx, hcell⟩
  · simp at hcs
    obtain ⟨rfl, rfl, rfl⟩ := hcs
    exact ⟨[], by simp, by simp, by rw [R]; exact ⟨rfl, none, 0, rfl, Nat.le_refl _, .inl rfl⟩⟩
  · simp at hcs
    obtain ⟨rfl, rfl, rfl⟩ := hcs
    simp only [if_true] at hmm
    have each : ∀ i, i < len0 → ∃ x : Int × Int × Int, x.2.1 ≤ 9223372036854775807 ∧ W.cell? (a.add (i * 3)) = some (.int .i64 x.1) ∧ W.cell? ((a.add (i * 3)).add 1) = some (.int .i64 x.2.1) ∧ W.cell? ((a.add (i * 3)).add 2) = some (.int .i64 x.2.2) := by
      intro i hi
      obtain ⟨cs', e1, e2⟩ := hcell i (by omega)
      rw [hC] at e1
      obtain ⟨_, e3, e4⟩ := World.cells?_some e1
      match cs', e3 with
      | [v0, v1, v2], _ =>
        obtain ⟨z0, z1, z2, k, hz, _, s0, s1, s2⟩ := Go.Deep.trod_struct3 hs e2
        have s0' : DataW.trod enc P W 0 (fun _ => true) true k f0.type [v0] = some z0 := by simpa [o0, d0] using s0
        have s1' : DataW.trod enc P W 0 (fun _ => true) true k f1.type [v1] = some z1 := by simpa [o1, d1] using s1
        have s2' : DataW.trod enc P W 0 (fun _ => true) true k f2.type [v2] = some z2 := by simpa [o2, d2] using s2
        obtain ⟨x0, hx0, _, w0⟩ := DataW.trod_int h0 s0'
        obtain ⟨x1, hx1, _, w1⟩ := DataW.trod_int h1 s1'
        obtain ⟨x2, hx2, _, w2⟩ := DataW.trod_int h2 s2'
        simp at hx0 hx1 hx2
        subst hx0 hx1 hx2
        refine ⟨(x0, x1, x2), ?_, ?_, ?_, ?_⟩
        · simp [Lit.wf] at w1
          exact w1.2
        · have := e4 0 (by omega)
          have ha0 : (a.add (i * 3)).add 0 = a.add (i * 3) := rfl
          rw [ha0] at this
          simpa using this
        · have := e4 1 (by omega); simpa using this
        · have := e4 2 (by omega); simpa using this
    obtain ⟨X, hX⟩ := Go.Deep.choose_lt each
    refine ⟨(List.range len0).map X, by simp; omega, ?_, ?_⟩
    · intro d hd
      obtain ⟨i, hi, rfl⟩ := List.mem_map.1 hd
      exact (hX i (by simpa using hi)).1
    rw [R]
    refine ⟨rfl, some a, cap0, by simp, by simpa using hl, ?_⟩
    by_cases hz : len0 = 0
    · left; subst hz; rfl
    right
    obtain ⟨_, g0, _, _⟩ := hX 0 (by omega)
    have ha0 : a.add (0 * 3) = a := by cases a; rfl
    rw [ha0] at g0
    have hsp := cell_spot g0
    refine ⟨a.block, a.off, dsV ((List.range len0).map X), by rw [← hsp], block_lt_of_cell g0, by simp [cin], ?_, sized_ds _, RL_dsV _ _⟩
    refine cells_dsV _ _ ?_
    intro i hi
    simp only [List.length_map, List.length_range] at hi
    obtain ⟨_, q0, q1, q2⟩ := hX i hi
    rw [hsp] at q0 q1 q2
    simp only [addr_add] at q0 q1 q2
    simp only [List.getElem_map, List.getElem_range]
    exact ⟨q0, q1, q2⟩

end Go.Proofs.YtiolbpmhnlmmdaaDoor

namespace Go.Proofs
open Go.Shelf
def Tryd.lays169_ren : Go.Shelf.Ren := ⟨fun | 169 => 49 | n => n, fun | 70 => 64 | 9 => 9 | 0 => 0 | 72 => 66 | 37 => 52 | 127 => 94 | 3 => 3 | 5 => 5 | n => n, fun | n => n⟩
theorem Tryd.lays169 : Go.Proofs.Lays.n169 Tryd.prog Tryd.lays169_ren := {
  mixed := by kernel_rfl
  f169 := Tryd.func49.trans (congrArg some (by kernel_rfl))
  t0 := Tryd.underlying0
  a0 := Tryd.isAgg0
  z0 := Tryd.sizeOf0
  v0 := Tryd.zeroValue0
  t3 := Tryd.underlying3
  a3 := Tryd.isAgg3
  z3 := Tryd.sizeOf3
  v3 := Tryd.zeroValue3
  t9 := Tryd.underlying9
  a9 := Tryd.isAgg9
  z9 := Tryd.sizeOf9
  v9 := Tryd.zeroValue9
  t37 := Tryd.underlying52
  a37 := Tryd.isAgg52
  z37 := Tryd.sizeOf52
  v37 := Tryd.zeroValue52
  t70 := Tryd.underlying64
  a70 := Tryd.isAgg64
  z70 := Tryd.sizeOf64
  v70 := Tryd.zeroValue64
  t72 := Tryd.underlying66
  a72 := Tryd.isAgg66
  z72 := Tryd.sizeOf66
  v72 := Tryd.zeroValue66
  t127 := Tryd.underlying94
  a127 := Tryd.isAgg94
  z127 := Tryd.sizeOf94
  v127 := Tryd.zeroValue94 }
theorem Tryd.Builder_Extra_169 : Builder.Extra Tryd.prog Tryd.lays169_ren := {
  sizeBuilder := by kernel_rfl
  liesBuilder := by kernel_rfl
  t5 := Tryd.underlying5
  a5 := Tryd.isAgg5
  z5 := Tryd.sizeOf5
  v5 := Tryd.zeroValue5
  infoByte := by kernel_rfl
  cellsByte := by kernel_rfl
  sizeByte := by kernel_rfl
  neB5 := by decide }
open Go.RowKit in
/-- (*strings.Builder).String: "String returns the accumulated string.": WHATEVER THE BUILDER HOLDS. (LAID: no walk: one application.) -/
theorem Tryd.Builder_String_any (B b : Nat) (l : List UInt8) (w : World) (h : Lib.IsBuilder 66 5 B b (Lib.byteCells l) w) (hBw : B ≤ w.heap.size) :
    Calls Tryd.prog 49 #[.pointer (some ⟨b, 0, none⟩)] w fun e w' => e = .returned (.string ⟨l.toArray⟩) ∧ Below B w w' := Any.Builder_String_any Tryd.lays169 Tryd.Builder_Extra_169 B b l w h hBw
def Tryd.lays156_ren : Go.Shelf.Ren := ⟨fun | 156 => 87 | 165 => 112 | 166 => 48 | 169 => 49 | 240 => 75 | 241 => 132 | 276 => 91 | 277 => 141 | n => n, fun | 31 => 62 | 9 => 9 | 3 => 3 | 4 => 4 | 0 => 0 | 20 => 20 | 72 => 66 | 76 => 69 | 70 => 64 | 37 => 52 | 75 => 68 | 127 => 94 | 164 => 107 | 5 => 5 | 80 => 71 | n => n, fun | n => n⟩
theorem Tryd.lays156 : Go.Proofs.Lays.n156 Tryd.prog Tryd.lays156_ren := {
  mixed := by kernel_rfl
  f156 := Tryd.func87.trans (congrArg some (by kernel_rfl))
  f165 := Tryd.func112.trans (congrArg some (by kernel_rfl))
  f166 := Tryd.func48.trans (congrArg some (by kernel_rfl))
  f169 := Tryd.func49.trans (congrArg some (by kernel_rfl))
  f240 := Tryd.func75.trans (congrArg some (by kernel_rfl))
  f241 := Tryd.func132.trans (congrArg some (by kernel_rfl))
  f276 := Tryd.func91.trans (congrArg some (by kernel_rfl))
  f277 := Tryd.func141.trans (congrArg some (by kernel_rfl))
  t0 := Tryd.underlying0
  a0 := Tryd.isAgg0
  z0 := Tryd.sizeOf0
  v0 := Tryd.zeroValue0
  t3 := Tryd.underlying3
  a3 := Tryd.isAgg3
  z3 := Tryd.sizeOf3
  v3 := Tryd.zeroValue3
  t4 := Tryd.underlying4
  a4 := Tryd.isAgg4
  z4 := Tryd.sizeOf4
  v4 := Tryd.zeroValue4
  t9 := Tryd.underlying9
  a9 := Tryd.isAgg9
  z9 := Tryd.sizeOf9
  v9 := Tryd.zeroValue9
  t20 := Tryd.underlying20
  a20 := Tryd.isAgg20
  z20 := Tryd.sizeOf20
  v20 := Tryd.zeroValue20
  t31 := Tryd.underlying62
  a31 := Tryd.isAgg62
  z31 := Tryd.sizeOf62
  v31 := Tryd.zeroValue62
  t37 := Tryd.underlying52
  a37 := Tryd.isAgg52
  z37 := Tryd.sizeOf52
  v37 := Tryd.zeroValue52
  t70 := Tryd.underlying64
  a70 := Tryd.isAgg64
  z70 := Tryd.sizeOf64
  v70 := Tryd.zeroValue64
  t72 := Tryd.underlying66
  a72 := Tryd.isAgg66
  z72 := Tryd.sizeOf66
  v72 := Tryd.zeroValue66
  t75 := Tryd.underlying68
  a75 := Tryd.isAgg68
  z75 := Tryd.sizeOf68
  v75 := Tryd.zeroValue68
  t76 := Tryd.underlying69
  a76 := Tryd.isAgg69
  z76 := Tryd.sizeOf69
  v76 := Tryd.zeroValue69
  t127 := Tryd.underlying94
  a127 := Tryd.isAgg94
  z127 := Tryd.sizeOf94
  v127 := Tryd.zeroValue94
  t164 := Tryd.underlying107
  a164 := Tryd.isAgg107
  z164 := Tryd.sizeOf107
  v164 := Tryd.zeroValue107 }
theorem Tryd.Builder_Extra_156 : Builder.Extra Tryd.prog Tryd.lays156_ren := {
  sizeBuilder := by kernel_rfl
  liesBuilder := by kernel_rfl
  t5 := Tryd.underlying5
  a5 := Tryd.isAgg5
  z5 := Tryd.sizeOf5
  v5 := Tryd.zeroValue5
  infoByte := by kernel_rfl
  cellsByte := by kernel_rfl
  sizeByte := by kernel_rfl
  neB5 := by decide }
end Go.Proofs

namespace Go.Proofs
open Go.Shelf
set_option maxRecDepth 1000000
theorem Tryd.lays166 : Go.Proofs.Lays.n166 Tryd.prog Tryd.lays156_ren :=
  have L := Tryd.lays156
  { mixed := L.mixed, f166 := L.f166, f240 := L.f240, f276 := L.f276, t0 := L.t0, a0 := L.a0, z0 := L.z0, v0 := L.v0, t3 := L.t3, a3 := L.a3, z3 := L.z3, v3 := L.v3, t4 := L.t4, a4 := L.a4, z4 := L.z4, v4 := L.v4, t9 := L.t9, a9 := L.a9, z9 := L.z9, v9 := L.v9, t20 := L.t20, a20 := L.a20, z20 := L.z20, v20 := L.v20, t37 := L.t37, a37 := L.a37, z37 := L.z37, v37 := L.v37, t70 := L.t70, a70 := L.a70, z70 := L.z70, v70 := L.v70, t72 := L.t72, a72 := L.a72, z72 := L.z72, v72 := L.v72, t75 := L.t75, a75 := L.a75, z75 := L.z75, v75 := L.v75, t164 := L.t164, a164 := L.a164, z164 := L.z164, v164 := L.v164 }
open Go.RowKit in
/-- (*strings.Builder).WriteString: the text is appended; below B the world is as it was. -/
theorem Tryd.Builder_WriteString (B b : Nat) (bs : List Value) (s : ByteArray) (w : World) (h : Lib.IsBuilder 66 5 B b bs w) (hlen : bs.length + s.size ≤ 140737488355328) (hBw : B ≤ w.heap.size) :
    Calls Tryd.prog 48 #[.pointer (some ⟨b, 0, none⟩), .string s] w fun e w' => e = .returned (.tuple #[.int .i64 s.size, .nilIface]) ∧ Lib.IsBuilder 66 5 B b (bs ++ Lib.strCells s) w' ∧ Below B w w' :=
  (Any.Builder_WriteString Tryd.lays166 Tryd.Builder_Extra_156 B b bs s w h hlen hBw).mono fun _ _ ⟨h1, h2, h3⟩ => ⟨h1, Or.inr h2, h3⟩
end Go.Proofs

namespace Go.Proofs.Dev
open Go.RowKit Go.Shelf
set_option linter.unusedVariables false

/-- The text of a journal: none if a deed has none. -/
def jTextL : List (Int × Int × Int) → List UInt8
  | [] => []
  | d :: xs => dText d ++ 10 :: jTextL xs
def jText (xs : List (Int × Int × Int)) : List UInt8 := if xs.all txtOk then jTextL xs else []

theorem jl_len : ∀ xs : List (Int × Int × Int), (jTextL xs).length ≤ 13 * xs.length
  | [] => by simp [jTextL]
  | d :: xs => by
    have := jl_len xs
    have := deed_len d
    simp only [jTextL, List.length_append, List.length_cons]
    omega

theorem builder_keep {T e : TypeId} {B b : Nat} {bs : List Value} {w w' : World} (h : Go.Lib.IsBuilder T e B b bs w) (k : Below w.heap.size w w') : Go.Lib.IsBuilder T e B b bs w' := by
  have at' : ∀ p, Go.Lib.BuilderAt T e B b p bs w → Go.Lib.BuilderAt T e B b p bs w' := by
    rintro p ⟨hB, v, hb, hown, hne⟩
    exact ⟨hB, v, by rw [k.block b (Array.getElem?_eq_some_iff.1 hb).1]; exact hb, hown.kept (row := none) ⟨k.os, k.tape, k.output, k.size, fun i hi _ => k.block i hi⟩ (Classical.em _), hne⟩
  exact h.imp (at' _) (at' _)

set_option maxHeartbeats 4000000 in
set_option maxRecDepth 100000 in
theorem j_calls (xs : List (Int × Int × Int)) (b p c : Nat) (w : World) (hx : xs.length ≤ 2000000)
    (hdt : ∀ (wr : World) (d : Int × Int × Int), Below w.heap.size w wr → Calls Tryd.prog 12 #[.agg #[.int .i64 d.1, .int .i64 d.2.1, .int .i64 d.2.2]] wr fun e w' => e = .returned (.string ⟨(dText d).toArray⟩) ∧ Below wr.heap.size wr w')
    (hcells : ∀ (j : Nat) (d : Int × Int × Int), xs[j]? = some d → w.cell? ⟨b, p + j * 3, none⟩ = some (.int .i64 d.1) ∧ w.cell? ⟨b, p + j * 3 + 1, none⟩ = some (.int .i64 d.2.1) ∧ w.cell? ⟨b, p + j * 3 + 2, none⟩ = some (.int .i64 d.2.2))
    (hb : b < w.heap.size) (hc : xs.length ≤ c) :
    Calls Tryd.prog 16 #[.slice (some ⟨b, p, none⟩) xs.length c] w fun e w' => e = .returned (.string ⟨(jText xs).toArray⟩) ∧ Below w.heap.size w w' := by
  have mixed := Tryd.lays156.mixed
  have t66 := Tryd.underlying66; have a66 := Tryd.isAgg66; have z66 := Tryd.sizeOf66; have v66 := Tryd.zeroValue66; have u66 := run_underlying Tryd.underlying66
  have t25 := Tryd.underlying25; have a25 := Tryd.isAgg25; have z25 := Tryd.sizeOf25; have v25 := Tryd.zeroValue25; have u25 := run_underlying Tryd.underlying25
  have t31 := Tryd.underlying31; have a31 := Tryd.isAgg31; have z31 := Tryd.sizeOf31; have v31 := Tryd.zeroValue31; have u31 := run_underlying Tryd.underlying31
  have t3 := Tryd.underlying3; have a3 := Tryd.isAgg3; have z3 := Tryd.sizeOf3; have v3 := Tryd.zeroValue3; have u3 := run_underlying Tryd.underlying3
  have t9 := Tryd.underlying9; have a9 := Tryd.isAgg9; have z9 := Tryd.sizeOf9; have v9 := Tryd.zeroValue9; have u9 := run_underlying Tryd.underlying9
  have t4 := Tryd.underlying4; have a4 := Tryd.isAgg4; have z4 := Tryd.sizeOf4; have v4 := Tryd.zeroValue4; have u4 := run_underlying Tryd.underlying4
  have e12 : ∀ args w, (callFunc 12 args).run Tryd.prog w = .ok (.enter 12 args) w := enters_of Tryd.func12 (by kernel_rfl) rfl
  have e48 : ∀ args w, (callFunc 48 args).run Tryd.prog w = .ok (.enter 48 args) w := enters_of Tryd.func48 (by kernel_rfl) rfl
  have e49 : ∀ args w, (callFunc 49 args).run Tryd.prog w = .ok (.enter 49 args) w := enters_of Tryd.func49 (by kernel_rfl) rfl
  have HC := Any.hidJ hcells
  have HD := Any.hidJ hdt
  clear hcells hdt
  go_enter Tryd.func16, Tryd.ntmps16
  go_wp2_with fail
  go_loopw [9] (fun i wr => ∃ k : Nat, k ≤ xs.length ∧ i = .int .i64 k ∧ (xs.take k).all txtOk = true ∧ Hid (Lib.IsBuilder 66 5 w.heap.size w.heap.size (Lib.byteCells (jTextL (xs.take k))) wr) ∧ Hid (Below w.heap.size w wr)) (fun i _ => xs.length - (intOf i).toNat)
  case atStart => exact ⟨0, Nat.zero_le _, rfl, rfl, Lib.fresh_isBuilder 66 5 w, (Below.refl w.heap.size w).alloc (Nat.le_refl _) _⟩
  case round =>
    obtain ⟨k, hk, rfl, hall, HB, HW⟩ := hrel
    by_cases hkn : k < xs.length
    · obtain ⟨d, hd⟩ : ∃ d, xs[k]? = some d := ⟨xs[k], List.getElem?_eq_getElem hkn⟩
      obtain ⟨c0, c1, c2⟩ := HC.out k d hd
      have hl := HW.out
      have c0' : wr.cell? ⟨b, p + k * 3, none⟩ = some (.int .i64 d.1) := by rw [hl.cell (p := ⟨b, p + k * 3, none⟩) hb]; exact c0
      have c1' : wr.cell? ⟨b, p + k * 3 + 1, none⟩ = some (.int .i64 d.2.1) := by rw [hl.cell (p := ⟨b, p + k * 3 + 1, none⟩) hb]; exact c1
      have c2' : wr.cell? ⟨b, p + k * 3 + 2, none⟩ = some (.int .i64 d.2.2) := by rw [hl.cell (p := ⟨b, p + k * 3 + 2, none⟩) hb]; exact c2
      have hbr : b < wr.heap.size := Nat.lt_of_lt_of_le hb hl.size
      clear c0 c1 c2 hl
      go_wp2_with fail
      refine (HD.out (wr.alloc _) d (HW.out.alloc HW.out.size _)).mono ?_
      rintro e w1 ⟨rfl, hb1⟩
      have hb1' : Below wr.heap.size wr w1 := ((Below.refl wr.heap.size wr).alloc (Nat.le_refl _) _).trans ⟨hb1.os, hb1.tape, hb1.output, hb1.size, fun i hi => hb1.block i (by simp; omega)⟩
      have HB1 := Any.hidJ (builder_keep HB.out hb1')
      have HW1 := Any.hidJ (HW.out.trans ⟨hb1'.os, hb1'.tape, hb1'.output, hb1'.size, fun i hi => hb1'.block i (Nat.lt_of_lt_of_le hi HW.out.size)⟩ : Below w.heap.size w w1)
      have hBw1 : w.heap.size ≤ w1.heap.size := HW1.out.size
      clear hb1 hb1'
      have htk : xs.take (k + 1) = xs.take k ++ [d] := by
        obtain ⟨hk2, rfl⟩ := List.getElem?_eq_some_iff.1 hd
        exact List.take_succ_eq_append_getElem hk2
      cases ht : txtOk d with
      | false =>
        have hr : jText xs = [] := by
          rw [jText, if_neg]
          intro h
          have := List.all_eq_true.1 h d (List.mem_of_getElem? hd)
          rw [ht] at this
          cases this
        rw [(dText_nil d).2 ht]
        have Hr := Any.hidJ hr
        clear hr
        go_wp2
        go_ret
        exact ⟨by rw [Hr.out]; rfl, HW1.out⟩
      | true =>
        have hne := (deed_text ht).2
        have hlen := deed_len d
        have hj : jTextL (xs.take (k + 1)) = jTextL (xs.take k) ++ (dText d ++ [10]) := by
          rw [htk]
          have : ∀ ys : List (Int × Int × Int), jTextL (ys ++ [d]) = jTextL ys ++ (dText d ++ [10]) := by
            intro ys
            induction ys with
            | nil => rfl
            | cons y ys ih => show dText y ++ 10 :: jTextL (ys ++ [d]) = (dText y ++ 10 :: jTextL ys) ++ _; rw [ih]; simp
          exact this _
        have Hj := Any.hidJ hj
        have Htk := Any.hidJ htk
        clear hj htk
        generalize dText d = t at *
        have hcmp : t.isEmpty = false := by
          cases t with
          | nil => exact absurd rfl hne
          | cons => rfl
        go_wp2_with fail
        have hsz : (Go.Lib.byteCells (jTextL (xs.take k))).length + (ByteArray.mk (t ++ [10]).toArray).size ≤ 140737488355328 := by
          rw [Go.Lib.byteCells_length, tx_size]
          have := jl_len (xs.take k)
          have h2 : (xs.take k).length ≤ xs.length := by rw [List.length_take]; omega
          simp only [List.length_append, List.length_singleton]
          omega
        have hstr : Go.Lib.strCells ⟨(t ++ [10]).toArray⟩ = Go.Lib.byteCells (t ++ [10]) := by rw [Go.Lib.strCells_eq]
        generalize ByteArray.mk (t ++ [10]).toArray = str at *
        have Hstr := Any.hidJ hstr
        clear hstr
        refine (Tryd.Builder_WriteString w.heap.size w.heap.size (Go.Lib.byteCells (jTextL (xs.take k))) str w1 HB1.out hsz hBw1).mono ?_
        rintro e w2 ⟨rfl, h2, hb2⟩
        rw [Hstr.out, ← Go.Lib.byteCells_append, ← Hj.out] at h2
        have H2 := Any.hidJ h2
        have Hb2 := Any.hidJ (HW1.out.trans hb2)
        have ha2 : (xs.take (k + 1)).all txtOk = true := by rw [Htk.out, List.all_append, hall]; simp [ht]
        clear h2 hb2 hsz
        go_wp2
        exact ⟨⟨k + 1, by omega, by go_num, ha2, H2, Hb2⟩, by simp [intOf]; omega⟩
    · have hke : k = xs.length := by omega
      subst hke
      have hB' := HB.out
      rw [List.take_of_length_le (Nat.le_refl _)] at hB' hall
      have Hr := Any.hidJ (show jText xs = jTextL xs from if_pos hall)
      have hBw : w.heap.size ≤ wr.heap.size := HW.out.size
      go_wp2_with fail
      refine (Tryd.Builder_String_any w.heap.size w.heap.size _ wr hB' hBw).mono ?_
      rintro e w5 ⟨rfl, hb5⟩
      have Hb5 := Any.hidJ (HW.out.trans hb5)
      clear hb5 hB'
      go_wp2
      go_ret
      exact ⟨by rw [Hr.out]; rfl, Hb5.out⟩

set_option maxHeartbeats 4000000 in
set_option maxRecDepth 100000 in
theorem j_none (a : Option Addr) (c : Nat) (w : World) :
    Calls Tryd.prog 16 #[.slice a 0 c] w fun e w' => e = .returned (.string ⟨(jText []).toArray⟩) ∧ Below w.heap.size w w' := by
  have mixed := Tryd.lays156.mixed
  have t66 := Tryd.underlying66; have a66 := Tryd.isAgg66; have z66 := Tryd.sizeOf66; have v66 := Tryd.zeroValue66; have u66 := run_underlying Tryd.underlying66
  have t25 := Tryd.underlying25; have a25 := Tryd.isAgg25; have z25 := Tryd.sizeOf25; have v25 := Tryd.zeroValue25; have u25 := run_underlying Tryd.underlying25
  have t31 := Tryd.underlying31; have a31 := Tryd.isAgg31; have z31 := Tryd.sizeOf31; have v31 := Tryd.zeroValue31; have u31 := run_underlying Tryd.underlying31
  have t3 := Tryd.underlying3; have a3 := Tryd.isAgg3; have z3 := Tryd.sizeOf3; have v3 := Tryd.zeroValue3; have u3 := run_underlying Tryd.underlying3
  have t9 := Tryd.underlying9; have a9 := Tryd.isAgg9; have z9 := Tryd.sizeOf9; have v9 := Tryd.zeroValue9; have u9 := run_underlying Tryd.underlying9
  have t4 := Tryd.underlying4; have a4 := Tryd.isAgg4; have z4 := Tryd.sizeOf4; have v4 := Tryd.zeroValue4; have u4 := run_underlying Tryd.underlying4
  have e12 : ∀ args w, (callFunc 12 args).run Tryd.prog w = .ok (.enter 12 args) w := enters_of Tryd.func12 (by kernel_rfl) rfl
  have e48 : ∀ args w, (callFunc 48 args).run Tryd.prog w = .ok (.enter 48 args) w := enters_of Tryd.func48 (by kernel_rfl) rfl
  have e49 : ∀ args w, (callFunc 49 args).run Tryd.prog w = .ok (.enter 49 args) w := enters_of Tryd.func49 (by kernel_rfl) rfl
  go_enter Tryd.func16, Tryd.ntmps16
  go_wp2_with fail
  go_loopw [9] (fun i wr => i = .int .i64 0 ∧ Hid (Go.Lib.IsBuilder 66 5 w.heap.size w.heap.size (Go.Lib.byteCells []) wr) ∧ Hid (Below w.heap.size w wr)) (fun _ _ => 0)
  case atStart => exact ⟨rfl, Go.Lib.fresh_isBuilder 66 5 w, (Below.refl w.heap.size w).alloc (Nat.le_refl _) _⟩
  case round =>
    obtain ⟨rfl, HB, HW⟩ := hrel
    have hBw : w.heap.size ≤ wr.heap.size := HW.out.size
    go_wp2_with fail
    refine (Tryd.Builder_String_any w.heap.size w.heap.size _ wr HB.out hBw).mono ?_
    rintro e w5 ⟨rfl, hb5⟩
    have Hb5 := Any.hidJ (HW.out.trans hb5)
    clear hb5
    go_wp2
    go_ret
    exact ⟨rfl, Hb5.out⟩

end Go.Proofs.Dev
