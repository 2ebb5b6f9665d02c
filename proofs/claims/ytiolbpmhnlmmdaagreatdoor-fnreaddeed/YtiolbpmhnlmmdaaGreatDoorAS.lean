/- Contracts of the functions of the program over slots and rows, each proved against the program itself; no condition beyond those that each theorem names. -/
import Derived.Test.YtiolbpmhnlmmdaaGreatDoorAK
import Derived.Test.YtiolbpmhnlmmdaaGreatDoorAR
import Derived.Test.YtiolbpmhnlmmdaaGreatDoorAN
import Derived.Test.YtiolbpmhnlmmdaaGreatDoorAJ

set_option linter.unusedSimpArgs false
set_option linter.unusedVariables false

namespace Go.Proofs.Dev
set_option linter.unusedSimpArgs false
set_option maxRecDepth 100000

def deedAY (d : Int × Int × Int) : AV := .agg [.v (.int .i64 d.1), .v (.int .i64 d.2.1), .v (.int .i64 d.2.2)]

theorem s_impl_Deed_needsY (d : Int × Int × Int) : SoundAt Tryz.prog n_impl_Deed_needsY [deedAY d] (.v (.bool (needD d))) [.bot] := by
  obtain ⟨k, s, w⟩ := d
  refine fn_ok (md := mdT) (ms := [false]) k_impl_Deed_needsY (by simp [deedAY]) ?_
  by_cases h0 : k = 0 <;> by_cases h1 : k = 1 <;> by_cases h2 : k = 2 <;> by_cases h3 : k = 3 <;> by_cases h4 : k = 4 <;> by_cases hs : s = 0 <;> by_cases hw : w = 0 <;> first | (exfalso; omega) | (simp [c_impl_Deed_needsY, deedAY, needD, h0, h1, h2, h3, h4, hs, hw])

theorem s_spec_l10NamedY (d : Int × Int × Int) : SoundAt Tryz.prog n_spec_l10NamedY [deedAY d] (.v (.bool (needD d))) [.bot] := by
  obtain ⟨k, s, w⟩ := d
  refine fn_ok (md := mdT) (ms := [false]) k_spec_l10NamedY (by simp [deedAY]) ?_
  by_cases h0 : k = 0 <;> by_cases h1 : k = 1 <;> by_cases h2 : k = 2 <;> by_cases h3 : k = 3 <;> by_cases h4 : k = 4 <;> by_cases hs : s = 0 <;> by_cases hw : w = 0 <;> first | (exfalso; omega) | (simp [c_spec_l10NamedY, deedAY, needD, h0, h1, h2, h3, h4, hs, hw])

abbrev digL : List UInt8 := [48, 49, 50, 51, 52, 53, 54, 55, 56, 57, 97, 98, 99, 100, 101, 102, 103, 104, 105, 106, 107, 108, 109, 110, 111, 112, 113, 114, 115, 116, 117, 118, 119, 120, 121, 122]
theorem small_lo : ∀ n : _root_.Fin 10, List.take (n.val + 1 - n.val) (List.drop n.val digL) = numT n.val := by decide +kernel
abbrev smalL : List UInt8 := [48, 48, 48, 49, 48, 50, 48, 51, 48, 52, 48, 53, 48, 54, 48, 55, 48, 56, 48, 57, 49, 48, 49, 49, 49, 50, 49, 51, 49, 52, 49, 53, 49, 54, 49, 55, 49, 56, 49, 57, 50, 48, 50, 49, 50, 50, 50, 51, 50, 52, 50, 53, 50, 54, 50, 55, 50, 56, 50, 57, 51, 48, 51, 49, 51, 50, 51, 51, 51, 52, 51, 53, 51, 54, 51, 55, 51, 56, 51, 57, 52, 48, 52, 49, 52, 50, 52, 51, 52, 52, 52, 53, 52, 54, 52, 55, 52, 56, 52, 57, 53, 48, 53, 49, 53, 50, 53, 51, 53, 52, 53, 53, 53, 54, 53, 55, 53, 56, 53, 57, 54, 48, 54, 49, 54, 50, 54, 51, 54, 52, 54, 53, 54, 54, 54, 55, 54, 56, 54, 57, 55, 48, 55, 49, 55, 50, 55, 51, 55, 52, 55, 53, 55, 54, 55, 55, 55, 56, 55, 57, 56, 48, 56, 49, 56, 50, 56, 51, 56, 52, 56, 53, 56, 54, 56, 55, 56, 56, 56, 57, 57, 48, 57, 49, 57, 50, 57, 51, 57, 52, 57, 53, 57, 54, 57, 55, 57, 56, 57, 57]
theorem small_hi : ∀ n : _root_.Fin 100, (if n.val < 10 then true else decide (List.take (n.val * 2 + 2 - n.val * 2) (List.drop (n.val * 2) smalL) = numT n.val)) = true := by decide +kernel

theorem s_small (n : Nat) (h1 : n < 100) : SoundAt Tryz.prog n_internalstrconv_small [.v (.int .i64 (n : Int))] (.v (tx (numT n))) [.bot] := by
  refine fn_ok (md := mdT) (ms := [false]) k_internalstrconv_small (by simp) ?_
  by_cases h : n < 10
  · have e : (n : Int) < 10 := by omega
    have t := small_lo ⟨n, h⟩
    have e1 : ((n : Int) + 1).toNat = n + 1 := by omega
    simp only at t
    rw [← t]
    have p1 : (0 : Int) ≤ (n : Int) + 1 := by omega
    have p2 : n + 1 ≤ 36 := by omega
    simp [c_internalstrconv_small, e, e1, p1, p2]
    omega
  · have e : ¬ (n : Int) < 10 := by omega
    have t := small_hi ⟨n, h1⟩
    rw [if_neg h] at t
    have t' := of_decide_eq_true t
    have e1 : ((n : Int) * 2).toNat = n * 2 := by omega
    have e2 : ((n : Int) * 2 + 2).toNat = n * 2 + 2 := by omega
    rw [← t']
    have p1 : (0 : Int) ≤ (n : Int) * 2 + 2 := by omega
    have p0 : (0 : Int) ≤ (n : Int) * 2 := by omega
    have p2 : n * 2 + 2 ≤ 200 := by omega
    simp [c_internalstrconv_small, e, e1, e2, p0, p1, p2]
    omega

theorem s_FormatInt (n : Nat) (h1 : n < 100) : SoundAt Tryz.prog n_internalstrconv_FormatInt [.v (.int .i64 (n : Int)), .v (.int .i64 10)] (.v (tx (numT n))) [.bot, .bot] := by
  refine fn_ok (md := mdT) (ms := [false, false]) k_internalstrconv_FormatInt (by simp) ?_
  have e : (n : Int) < 100 := by omega
  have e0 : (0 : Int) ≤ n := by omega
  simp [c_internalstrconv_FormatInt, e, e0]
  refine call_on (s_small n h1) ?_
  simp

theorem s_Itoa0 (n : Nat) (h1 : n < 100) : SoundAt Tryz.prog n_internalstrconv_Itoa [.v (.int .i64 (n : Int))] (.v (tx (numT n))) [.bot] := by
  refine fn_ok (md := mdT) (ms := [false]) k_internalstrconv_Itoa (by simp) ?_
  simp [c_internalstrconv_Itoa]
  refine call_on (s_FormatInt n h1) ?_
  simp

theorem s_strconv_Itoa (n : Int) (h0 : 0 ≤ n) (h1 : n < 100) : SoundAt Tryz.prog n_strconv_Itoa [.v (.int .i64 n)] (.v (tx (numT n))) [.bot] := by
  obtain ⟨k, rfl⟩ : ∃ k : Nat, n = k := ⟨n.toNat, by omega⟩
  refine fn_ok (md := mdT) (ms := [false]) k_strconv_Itoa (by simp) ?_
  simp [c_strconv_Itoa]
  refine call_on (s_Itoa0 k (by omega)) ?_
  simp

theorem s_spec_l10Letter (w : Int) : SoundAt Tryz.prog n_spec_l10Letter [.v (.int .i64 w)] (.v (tx (letT w))) [.bot] := by
  refine fn_ok (md := mdT) (ms := [false]) k_spec_l10Letter (by simp) ?_
  simp [c_spec_l10Letter]
  refine call_on (s_spec_l1In w 1 4) ?_
  by_cases h1 : w = 1
  · subst h1; simp [letT]
  by_cases h2 : w = 2
  · subst h2; simp [letT]
  by_cases h3 : w = 3
  · subst h3; simp [letT]
  by_cases h4 : w = 4
  · subst h4; simp [letT]
  have h : ¬ (1 ≤ w ∧ w ≤ 4) := by omega
  simp [letT, h1, h2, h3, h4, h]

end Go.Proofs.Dev

namespace Go.Proofs.Dev
set_option linter.unusedSimpArgs false
set_option maxRecDepth 100000

theorem dText_no {d : Int × Int × Int} (h : txtOk d = false) : dText d = [] := by simp [dText, h]
theorem need_kind {k s w : Int} (h : needD (k, s, w) = true) : k = 0 ∨ k = 1 ∨ k = 2 ∨ k = 3 ∨ k = 4 := by
  simp only [needD] at h
  split at h
  · left; assumption
  · split at h
    · rename_i h2; rcases h2 with h2 | h2 <;> simp [h2]
    · split at h
      · rename_i h2; rcases h2 with h2 | h2 <;> simp [h2]
      · cases h
theorem numT_le (n : Int) : (numT n).length ≤ 2 := by unfold numT; split <;> simp
theorem letT_le (n : Int) : (letT n).length ≤ 1 := by unfold letT; (repeat' split) <;> simp
theorem letT_nil (w : Int) : letT w = [] ↔ ¬ (1 ≤ w ∧ w ≤ 4) := by
  unfold letT
  by_cases h1 : w = 1
  · simp [h1]
  by_cases h2 : w = 2
  · simp [h2]
  by_cases h3 : w = 3
  · simp [h3]
  by_cases h4 : w = 4
  · simp [h4]
  simp [h1, h2, h3, h4]
  omega

set_option maxHeartbeats 4000000 in
theorem s_spec_DeedText (d : Int × Int × Int) : SoundAt Tryz.prog n_spec_DeedText [deedAY d] (.v (tx (dText d))) [.bot] := by
  obtain ⟨k, s, w⟩ := d
  have nd := s_spec_l10NamedY (k, s, w)
  simp only [deedAY] at nd
  have li := s_spec_l1In s 0 99
  have le := s_spec_l10Letter w
  refine fn_ok (md := mdT) (ms := [false]) k_spec_DeedText (by simp [deedAY]) ?_
  cases hn : needD (k, s, w) with
  | false =>
    rw [hn] at nd
    rw [dText_no (by simp [txtOk, hn])]
    simp [c_spec_DeedText, deedAY]
    refine call_on nd ?_
    simp
  | true =>
  rw [hn] at nd
  by_cases hs : 0 ≤ s ∧ s ≤ 99
  case neg =>
    rw [dText_no (by simp [txtOk, hs])]
    simp [c_spec_DeedText, deedAY]
    refine call_on nd ?_
    simp
    refine call_on li ?_
    simp [hs]
  have nu := s_spec_l1Number s hs.1 (by omega)
  have n2 := numT_le s
  have l1 := letT_le w
  have lk := need_kind hn
  simp [c_spec_DeedText, deedAY]
  refine call_on nd ?_
  simp
  refine call_on li ?_
  simp [hs]
  rcases lk with rfl | rfl | rfl | rfl | rfl
  · simp
    refine call_on nu ?_
    simp
    refine ⟨by omega, ?_⟩
    refine call_on le ?_
    by_cases hw : 1 ≤ w ∧ w ≤ 4
    · have hne : letT w ≠ [] := by rw [Ne, letT_nil]; simpa using hw
      have e : dText (0, s, w) = wordK 0 ++ (32 :: numT s ++ 32 :: letT w) := by simp [dText, txtOk, hn, hs, hw]
      rw [e]
      simp [hne]
      refine ⟨by omega, ?_⟩
      refine call_on le ?_
      simp [wordK]
      omega
    · have hne : letT w = [] := by rw [letT_nil]; exact hw
      rw [dText_no (by simp [txtOk, hw])]
      simp [hne]
  all_goals
    have e := hn
    simp [needD] at e
  · have e' : dText (1, s, w) = wordK 1 ++ 32 :: numT s := by simp [dText, txtOk, hn, hs]
    rw [e']
    simp
    refine call_on nu ?_
    simp [wordK]
    omega
  · have e' : dText (2, s, w) = wordK 2 ++ 32 :: numT s := by simp [dText, txtOk, hn, hs]
    rw [e']
    simp
    refine call_on nu ?_
    simp [wordK]
    omega
  · have e' : dText (3, s, w) = wordK 3 := by simp [dText, txtOk, hn, hs]
    rw [e']
    simp [wordK]
  · have e' : dText (4, s, w) = wordK 4 := by simp [dText, txtOk, hn, hs]
    rw [e']
    simp [wordK]

set_option maxHeartbeats 4000000 in
theorem s_impl_DeedText (d : Int × Int × Int) : SoundAt Tryz.prog n_impl_DeedText [deedAY d] (.v (tx (dText d))) [.bot] := by
  obtain ⟨k, s, w⟩ := d
  have nd := s_impl_Deed_needsY (k, s, w)
  simp only [deedAY] at nd
  have li := s_impl_in s 0 99
  have lw := s_impl_in w 1 4
  refine fn_ok (md := mdT) (ms := [false]) k_impl_DeedText (by simp [deedAY]) ?_
  cases hn : needD (k, s, w) with
  | false =>
    rw [hn] at nd
    rw [dText_no (by simp [txtOk, hn])]
    simp [c_impl_DeedText, deedAY]
    refine call_on nd ?_
    simp
  | true =>
  rw [hn] at nd
  by_cases hs : 0 ≤ s ∧ s ≤ 99
  case neg =>
    rw [dText_no (by simp [txtOk, hs])]
    simp [c_impl_DeedText, deedAY]
    refine call_on nd ?_
    simp
    refine call_on li ?_
    simp [hs]
  have nu := s_strconv_Itoa s hs.1 (by omega)
  have n2 := numT_le s
  have lk := need_kind hn
  simp [c_impl_DeedText, deedAY]
  refine call_on nd ?_
  simp
  refine call_on li ?_
  simp [hs]
  rcases lk with rfl | rfl | rfl | rfl | rfl
  · simp [aiadr]
    refine call_on lw ?_
    by_cases hw : 1 ≤ w ∧ w ≤ 4
    · have e : dText (0, s, w) = wordK 0 ++ (32 :: numT s ++ 32 :: letT w) := by simp [dText, txtOk, hn, hs, hw]
      rw [e]
      have h4 : w = 1 ∨ w = 2 ∨ w = 3 ∨ w = 4 := by omega
      simp [hw, aiadr]
      refine call_on nu ?_
      rcases h4 with rfl | rfl | rfl | rfl <;>
      · simp [wordK, letT]
        omega
    · rw [dText_no (by simp [txtOk, hw])]
      simp [hw]
  all_goals
    have e := hn
    simp [needD] at e
  · have e' : dText (1, s, w) = wordK 1 ++ 32 :: numT s := by simp [dText, txtOk, hn, hs]
    rw [e']
    simp [aiadr]
    refine call_on nu ?_
    simp [wordK]
    omega
  · have e' : dText (2, s, w) = wordK 2 ++ 32 :: numT s := by simp [dText, txtOk, hn, hs]
    rw [e']
    simp [aiadr]
    refine call_on nu ?_
    simp [wordK]
    omega
  · have e' : dText (3, s, w) = wordK 3 := by simp [dText, txtOk, hn, hs]
    rw [e']
    simp [wordK, aiadr]
  · have e' : dText (4, s, w) = wordK 4 := by simp [dText, txtOk, hn, hs]
    rw [e']
    simp [wordK, aiadr]

end Go.Proofs.Dev

namespace Go.Proofs.Dev
open Go.RowKit
set_option linter.unusedSimpArgs false
set_option maxRecDepth 100000

/-- The kind of a word, of those looked at so far. -/
def kAt (p : List UInt8) : Nat → Int
  | 0 => -1
  | i + 1 => if p = wordK i then (i : Int) else kAt p i
theorem kAt_all (p : List UInt8) : kAt p 5 = kindT p := by
  by_cases h0 : p = wordK 0
  · subst h0; decide
  by_cases h1 : p = wordK 1
  · subst h1; decide
  by_cases h2 : p = wordK 2
  · subst h2; decide
  by_cases h3 : p = wordK 3
  · subst h3; decide
  by_cases h4 : p = wordK 4
  · subst h4; decide
  have e0 : ¬ p = wordK ((0 : Nat) : Int) := h0
  have e1 : ¬ p = wordK ((1 : Nat) : Int) := h1
  have e2 : ¬ p = wordK ((2 : Nat) : Int) := h2
  have e3 : ¬ p = wordK ((3 : Nat) : Int) := h3
  have e4 : ¬ p = wordK ((4 : Nat) : Int) := h4
  rw [kAt, if_neg e4, kAt, if_neg e3, kAt, if_neg e2, kAt, if_neg e1, kAt, if_neg e0, kAt]
  simp [kindT, h0, h1, h2, h3, h4]
/-- The direction of a letter, of those looked at so far. -/
def wAt (p : List UInt8) : Nat → Int
  | 0 => 0
  | i + 1 => if p = letT (i + 1) then ((i : Int) + 1) else wAt p i
theorem wAt_all (p : List UInt8) : wAt p 4 = wayT p := by
  by_cases h1 : p = letT 1
  · subst h1; decide
  by_cases h2 : p = letT 2
  · subst h2; decide
  by_cases h3 : p = letT 3
  · subst h3; decide
  by_cases h4 : p = letT 4
  · subst h4; decide
  have e1 : ¬ p = letT (((0 : Nat) : Int) + 1) := h1
  have e2 : ¬ p = letT (((1 : Nat) : Int) + 1) := h2
  have e3 : ¬ p = letT (((2 : Nat) : Int) + 1) := h3
  have e4 : ¬ p = letT (((3 : Nat) : Int) + 1) := h4
  rw [wAt, if_neg e4, wAt, if_neg e3, wAt, if_neg e2, wAt, if_neg e1, wAt]
  simp [wayT, h1, h2, h3, h4]

abbrev rdE (s : List UInt8) (n : Nat) (t : Nat) (k : Nat) : ES := [(0, .v (tx s)), (2, .lp 0 0 0 0), (4, .ls 1 1 0 n), (5, .lp 0 2 0 0), (t, .v (.int .i64 (k : Int)))]
abbrev rdH (ps : List (List UInt8)) (a b c : Int) : Heap := [some (.box [.v (.int .i64 0), .v (.int .i64 0), .v (.int .i64 0)]), some (.arr 1 (txs ps)), some (.box [.v (.int .i64 a), .v (.int .i64 b), .v (.int .i64 c)])]

set_option maxHeartbeats 8000000 in
theorem rd_L0 (s : List UInt8) (ps : List (List UInt8)) (h0 : 0 < ps.length) (Qc : AExit → ES → Heap → Prop) (hq : Qc (.exit 0) (rdE s ps.length 6 5 ++ []) (rdH ps (kindT (nth ps 0)) 0 0) ∨ True)
    (hend : ∀ E, get E 0 = .v (tx s) → get E 2 = .lp 0 0 0 0 → get E 4 = .ls 1 1 0 ps.length → get E 5 = .lp 0 2 0 0 → Qc (.exit 0) E (rdH ps (kindT (nth ps 0)) 0 0)) :
    loopNode [(4, 1)] [0, 2, 4, 5, 6] (awp Tryz.prog mdT c_spec_ReadDeed_L0) Qc (rdE s ps.length 6 0) (rdH ps (-1) 0 0) := by
  refine loop_by (fun m E H => ∃ k : Nat, m = 5 - k ∧ k ≤ 5 ∧ E = rdE s ps.length 6 k ∧ H = rdH ps (kAt (nth ps 0) k) 0 0) 5 ⟨0, rfl, by omega, rfl, rfl⟩ ?_
  rintro J hJ m E H ⟨k, rfl, hk, rfl, rfl⟩
  have hg : ps[0] = nth ps 0 := by simp [nth, h0]
  by_cases h5 : k = 5
  · subst h5
    rw [kAt_all]
    simp [c_spec_ReadDeed_L0]
    exact hend _ rfl rfl rfl rfl
  have nx1 : nth ps 0 = wordK k → again J (5 - k) (rdE s ps.length 6 (k + 1)) (rdH ps k 0 0) := fun e => ⟨_, by omega, hJ _ _ _ ⟨k + 1, rfl, by omega, rfl, by rw [kAt, if_pos e]⟩⟩
  have nx2 : nth ps 0 ≠ wordK k → again J (5 - k) (rdE s ps.length 6 (k + 1)) (rdH ps (kAt (nth ps 0) k) 0 0) := fun e => ⟨_, by omega, hJ _ _ _ ⟨k + 1, rfl, by omega, rfl, by rw [kAt, if_neg e]⟩⟩
  generalize kAt (nth ps 0) k = q at *
  generalize nth ps 0 = x at *
  have : k = 0 ∨ k = 1 ∨ k = 2 ∨ k = 3 ∨ k = 4 := by omega
  by_cases e : x = wordK (k : Int)
  · have nx := nx1 e
    clear nx1 nx2 hend hq
    rcases this with rfl | rfl | rfl | rfl | rfl <;>
    · simp [wordK] at e nx
      simp [c_spec_ReadDeed_L0, h0, hg, e]
      (repeat' first | exact nx | apply And.intro)
  · have nx := nx2 e
    clear nx1 nx2 hend hq
    rcases this with rfl | rfl | rfl | rfl | rfl <;>
    · simp [wordK] at e nx
      simp [c_spec_ReadDeed_L0, h0, hg, e]
      (repeat' first | exact nx | apply And.intro)

set_option maxHeartbeats 8000000 in
theorem rd_L1 (s : List UInt8) (ps : List (List UInt8)) (a b : Int) (hp : ps.length < 2 ^ 40) (Qc : AExit → ES → Heap → Prop)
    (hend : ∀ E, get E 0 = .v (tx s) → get E 2 = .lp 0 0 0 0 → get E 5 = .lp 0 2 0 0 → Qc (.exit 2) E (rdH ps a b (if 2 < ps.length then wayT (nth ps 2) else 0))) :
    loopNode [(4, 1)] [0, 2, 4, 5, 7] (awp Tryz.prog mdT c_spec_ReadDeed_L1) Qc (rdE s ps.length 7 1) (rdH ps a b 0) := by
  by_cases h2 : 2 < ps.length
  case neg =>
    have h2' : ¬ (2 : Int) < (ps.length : Int) := by omega
    refine loop_by (fun m E H => m = 0 ∧ E = rdE s ps.length 7 1 ∧ H = rdH ps a b 0) 0 ⟨rfl, rfl, rfl⟩ ?_
    rintro J hJ m E H ⟨rfl, rfl, rfl⟩
    simp only [if_neg h2] at hend
    simp [c_spec_ReadDeed_L1, h2']
    exact hend _ rfl rfl rfl
  have h2' : (2 : Int) < (ps.length : Int) := by omega
  rw [if_pos h2] at hend
  refine loop_by (fun m E H => ∃ k : Nat, m = 4 - k ∧ k ≤ 4 ∧ E = rdE s ps.length 7 (k + 1) ∧ H = rdH ps a b (wAt (nth ps 2) k)) 4 ⟨0, rfl, by omega, rfl, rfl⟩ ?_
  rintro J hJ m E H ⟨k, rfl, hk, rfl, rfl⟩
  have hg : ps[2] = nth ps 2 := by simp [nth, h2]
  by_cases h5 : k = 4
  · subst h5
    rw [wAt_all]
    simp [c_spec_ReadDeed_L1]
    exact hend _ rfl rfl rfl
  have le := s_spec_l10Letter ((k : Int) + 1)
  have nx1 : nth ps 2 = letT ((k : Int) + 1) → again J (4 - k) (rdE s ps.length 7 (k + 2)) (rdH ps a b ((k : Int) + 1)) := fun e => ⟨_, by omega, hJ _ _ _ ⟨k + 1, rfl, by omega, rfl, by rw [wAt, if_pos e]⟩⟩
  have nx2 : nth ps 2 ≠ letT ((k : Int) + 1) → again J (4 - k) (rdE s ps.length 7 (k + 2)) (rdH ps a b (wAt (nth ps 2) k)) := fun e => ⟨_, by omega, hJ _ _ _ ⟨k + 1, rfl, by omega, rfl, by rw [wAt, if_neg e]⟩⟩
  have e2 : ((k + 2 : Nat) : Int) = (k : Int) + 1 + 1 := by omega
  simp only [rdE, e2] at nx1 nx2
  have hk4 : (k : Int) + 1 ≤ 4 := by omega
  generalize wAt (nth ps 2) k = q at *
  generalize nth ps 2 = x at *
  generalize hlt : letT ((k : Int) + 1) = y at *
  by_cases e : x = y
  · have nx := nx1 e
    simp [c_spec_ReadDeed_L1, h2, h2', hg, hk4]
    (repeat' first | omega | apply And.intro) <;>
    · refine call_on le ?_
      simp [e, h2, hg, nx]
      try omega
  · have nx := nx2 e
    simp [c_spec_ReadDeed_L1, h2, h2', hg, hk4]
    (repeat' first | omega | apply And.intro) <;>
    · refine call_on le ?_
      simp [e, h2, hg, nx]
      try omega

/-- How the reference ends. -/
def c_spec_ReadDeed_Z : ACode := .seq (.seq (.reg [.m 50 0, .o 51 (.bin .eql 1) [.t 50, .c (.v (.string ⟨#[]⟩))], .m 52 51,
 .g 53 (.load true 3) [.t 5] 52 false, .g 54 (.call 8 []) [.t 53] 52 false, .mg 55 0 52 false, .g 56 (.bin .neq 1) [.t 54, .t 55] 52 false, .o 57 .pick [.t 52,
 .kb true, .t 56]]) <| .cond (.t 57) ( .seq (.reg [.o 58 (.build dz []) [], .s (.store 3) [.t 2, .t 58], .o 3 .mv [.kb false]]) <| .ret) ( .skip)) <|
 .seq (.reg [.la 59 3 5, .s (.store 3) [.t 2, .t 59], .o 3 .mv [.kb true]]) <| .ret

def deedO (d : Int × Int × Int) (b : Bool) : AV := .tup [deedAY d, .v (.bool b)]

set_option maxHeartbeats 8000000 in
theorem s_spec_ReadDeed (s : List UInt8) (hs : s.length < 2 ^ 30) : SoundAt Tryz.prog n_spec_ReadDeed [.v (tx s)] (deedO (readD s) (readB s)) [.bot] := by
  have cu := s_spec_l1Cut s 32 hs
  have hlen := cutL_le 32 s
  obtain ⟨p, qs, hps⟩ := cutL_cons 32 s
  have h0 : 0 < (cutL 32 s).length := by rw [hps]; simp
  have dt := s_spec_DeedText (deedS s)
  have dx : deedS s = (kindT (nth (cutL 32 s) 0), if 1 < (cutL 32 s).length then digT (nth (cutL 32 s) 1) else 0, if 2 < (cutL 32 s).length then wayT (nth (cutL 32 s) 2) else 0) := rfl
  have rb : readB s = (decide (s ≠ []) && decide (dText (deedS s) = s)) := rfl
  have rdd : readD s = if readB s then deedS s else (0, 0, 0) := rfl
  have l1 := s_spec_l1Digits (nth (cutL 32 s) 1) (by have := nth_each 32 s 1; omega)
  refine fn_ok (md := mdT) (ms := [false]) k_spec_ReadDeed (by simp) ?_
  simp [c_spec_ReadDeed]
  refine call_on cu ?_
  generalize cutL 32 s = ps at *
  simp
  refine rd_L0 s ps h0 _ (.inr trivial) ?_
  intro E e0 e2 e4 e5
  have tail : ∀ (E : ES) (b : Int), (b = if 1 < ps.length then digT (nth ps 1) else 0) → get E 0 = .v (tx s) → get E 2 = .lp 0 0 0 0 → get E 5 = .lp 0 2 0 0 →
      awp Tryz.prog mdT c_spec_ReadDeed_Z (Fin [RV.c 2 true 3, RV.t 3] 60 1 [false] (deedO (readD s) (readB s)) [AV.bot]) E (rdH ps (kindT (nth ps 0)) b (if 2 < ps.length then wayT (nth ps 2) else 0)) := by
    intro E b hb e0 e2 e5
    rw [← hb] at dx
    generalize (if 2 < ps.length then wayT (nth ps 2) else 0) = c at *
    generalize kindT (nth ps 0) = a at *
    rw [dx] at dt rb rdd
    simp only [deedAY] at dt
    generalize dText (a, b, c) = t at *
    by_cases hs0 : s = []
    · have rb' : readB s = false := by rw [rb]; simp [hs0]
      rw [rdd, rb']
      subst hs0
      simp [c_spec_ReadDeed_Z, e0, e2, e5, deedO, deedAY]
    · by_cases ht : t = s
      · have rb' : readB s = true := by rw [rb]; simp [hs0, ht]
        rw [rdd, rb']
        simp [c_spec_ReadDeed_Z, e0, e2, e5, hs0]
        refine call_on dt ?_
        simp [ht, e0, e2, e5, deedO, deedAY]
      · have rb' : readB s = false := by rw [rb]; simp [ht]
        rw [rdd, rb']
        simp [c_spec_ReadDeed_Z, e0, e2, e5, hs0]
        refine call_on dt ?_
        simp [ht, e0, e2, e5, deedO, deedAY]
  by_cases h1 : 1 < ps.length
  · have h1' : (1 : Int) < (ps.length : Int) := by omega
    have hg1 : ps[1] = nth ps 1 := by simp [nth, h1]
    rw [if_pos h1] at tail
    simp [e0, e2, e4, e5, h1, h1', hg1]
    refine call_on l1 ?_
    simp [e0, e2, e4, e5]
    refine rd_L1 s ps _ _ (by omega) _ ?_
    intro E' f0 f2 f5
    simp only [ablock_exit, if_true, athen_normal]
    exact tail E' _ rfl f0 f2 f5
  · have h1' : ¬ (1 : Int) < (ps.length : Int) := by omega
    rw [if_neg h1] at tail
    simp [e0, e2, e4, e5, h1, h1']
    refine rd_L1 s ps _ _ (by omega) _ ?_
    intro E' f0 f2 f5
    simp only [ablock_exit, if_true, athen_normal]
    exact tail E' _ rfl f0 f2 f5

end Go.Proofs.Dev

namespace Go.Proofs.Dev
open Go.RowKit
set_option linter.unusedSimpArgs false
set_option maxRecDepth 100000

theorem s_strconv_Atoi (s : List UInt8) (hs : s.length < 2 ^ 30) : SoundAt Tryz.prog 34 [.v (tx s)] (.tup [.v (.int .i64 (atoiV s)), .bot]) [.bot] := by
  refine of_lib (xs := [tx s]) fun w S forb hg => ?_
  have tup : ∀ (w' : World) (n : Int) (u : Value), R (cout w' [] forb) (.tup [.v (.int .i64 n), .bot]) [] (.tuple #[.int .i64 n, u]) := by
    intro w' n u
    rw [R]
    refine ⟨[_, _], rfl, ?_⟩
    rw [RL]; refine ⟨[], [], _, _, rfl, rfl, by rw [R]; exact ⟨rfl, rfl⟩, ?_⟩
    rw [RL]; exact ⟨[], [], _, _, rfl, rfl, by rw [R], by rw [RL]; exact ⟨rfl, rfl⟩⟩
  rcases h : Go.Lib.atoiAll s with v | _ | _
  ·
    have e : atoiV s = v := by simp [atoiV, h]
    rw [e]
    refine (Tryz.strconv_Atoi_ok ⟨s.toArray⟩ (by simp; omega) v h w).mono ?_
    rintro e w' ⟨rfl, hw⟩
    refine ⟨_, [], rfl, tup _ _ _, by simp, by simp, ?_⟩
    rcases hw with rfl | ⟨t, rfl⟩
    · exact Kept.refl _ _ _
    · exact kept_of_below _ (Go.Lib.bytesWorld_below _ _ _)
  ·
    have e : atoiV s = 0 := by simp [atoiV, h]
    rw [e]
    obtain ⟨ev, h1, h2⟩ := hg.cell (g := 2) (p := errP) (by simp [gps])
    refine (Any.strconv_Atoi_syntax Tryz.laysC172 ⟨s.toArray⟩ (by simp; omega) h ev w h1 h2).mono ?_
    rintro e w' ⟨N, rfl, _, _, hb⟩
    exact ⟨_, [], rfl, tup _ _ _, by simp, by simp, kept_of_below _ hb⟩
  ·
    have e : atoiV s = Go.Lib.atoiSat s := by simp [atoiV, h]
    rw [e]
    obtain ⟨ev, h1, h2⟩ := hg.cell (g := 3) (p := errP) (by simp [gps])
    refine (Tryz.strconv_Atoi_range ⟨s.toArray⟩ (by simp; omega) h ev w h1 h2).mono ?_
    rintro e w' ⟨N, rfl, _, _, hb⟩
    exact ⟨_, [], rfl, tup _ _ _, by simp, by simp, kept_of_below _ hb⟩

/-- Where a word stands among words. -/
def idxT (x : List UInt8) : List (List UInt8) → Nat → Int
  | [], _ => -1
  | p :: ps, i => if x = p then i else idxT x ps (i + 1)

theorem idxT_drop {ls : List (List UInt8)} {x : List UInt8} {k : Nat} (h : k < ls.length) : idxT x (ls.drop k) k = if x = ls[k] then (k : Int) else idxT x (ls.drop (k + 1)) (k + 1) := by
  rw [List.drop_eq_getElem_cons h, idxT]

theorem att_at {ls : List (List UInt8)} {k : Nat} (h : k < ls.length) : att ls (k : Int) = ls[k] := by simp [att, h]

theorem s_slices_IndexT (ls : List (List UInt8)) (x : List UInt8) (hl : ls.length < 2 ^ 30) : SoundAt Tryz.prog n_slices_Index_string_string [.sl 1 1 (txs ls), .v (tx x)] (.v (.int .i64 (idxT x ls 0))) [.bot, .bot] := by
  refine fn_ok (md := mdT) (ms := [false, false]) k_slices_Index_string_string (by simp) ?_
  simp [c_slices_Index_string_string]
  refine loop_by (fun m E H => ∃ k : Nat, m = ls.length - k ∧ k ≤ ls.length ∧ idxT x (ls.drop k) k = idxT x ls 0 ∧ H = [] ∧ E = [(0, .sl 1 1 (txs ls)), (1, .v (tx x)), (7, .v (.int .i64 ls.length)), (8, .v (.int .i64 (k : Int)))]) ls.length ⟨0, by simp⟩ ?_
  rintro J hJ m E H ⟨k, rfl, hk, hd, rfl, rfl⟩
  by_cases h : k < ls.length
  · rw [idxT_drop h] at hd
    by_cases hx : x = ls[k]
    · rw [if_pos hx] at hd
      rw [← hd]
      simp [c_slices_Index_string_string_L0, h, att_at h, ← hx]
    · rw [if_neg hx] at hd
      have nx := hJ (ls.length - (k + 1)) [(0, .sl 1 1 (txs ls)), (1, .v (tx x)), (7, .v (.int .i64 ls.length)), (8, .v (.int .i64 ((k : Int) + 1)))] [] ⟨k + 1, rfl, by omega, hd, rfl, by simp⟩
      simp [c_slices_Index_string_string_L0, h, att_at h, hx]
      exact ⟨⟨by omega, by omega⟩, _, by omega, nx⟩
  · have hk' : k = ls.length := by omega
    subst hk'
    rw [List.drop_length] at hd
    rw [← hd]
    simp [c_slices_Index_string_string_L0, idxT]

end Go.Proofs.Dev

namespace Go.Proofs.Dev
open Go.RowKit
set_option linter.unusedSimpArgs false
set_option maxRecDepth 100000

/-- How the program goes on, and ends. -/
def c_impl_ReadDeed_Z : ACode := .seq (.seq (.reg [.la 38 3 5, .o 39 (.call 7 []) [.t 38], .m 40 0, .o 41 (.bin .neq 1) [.t 39, .t 40]]) <|
 .cond (.t 41) ( .seq (.reg [.o 42 (.build dz []) [], .s (.store 3) [.t 2, .t 42], .o 3 .mv [.kb false]]) <| .ret) ( .skip)) <| .seq (.reg [.la 43 3 5,
 .s (.store 3) [.t 2, .t 43], .o 3 .mv [.kb true]]) <| .ret

def c_impl_ReadDeed_Y : ACode := .seq (.seq (.reg [.m 29 4, .n 30 29, .o 31 (.bin .gtr 0) [.t 30, .k 2]]) <| .cond (.t 31) ( .reg [.m 32 4,
 .o 33 (.iadr 1) [.t 32, .k 2], .l 34 33, .o 35 (.call 35 []) [.c (.v (.string ⟨#[35, 101, 110, 119, 115]⟩)), .t 34], .o 36 (.mnx false) [.k 0, .t 35],
 .f 37 2 5, .s (.store 1) [.t 37, .t 36]]) ( .skip)) <| c_impl_ReadDeed_Z

def c_impl_ReadDeed_X : ACode := .seq (.seq (.reg [.f 14 0 5, .l 15 14, .o 16 (.bin .lss 0) [.t 15, .k 0]]) <|
 .cond (.t 16) ( .seq (.reg [.o 17 (.build dz []) [], .s (.store 3) [.t 2, .t 17], .o 3 .mv [.kb false]]) <| .ret) ( .skip)) <| .seq (.seq (.reg [.m 18 4,
 .n 19 18, .o 20 (.bin .gtr 0) [.t 19, .k 1]]) <| .cond (.t 20) ( .reg [.m 22 4, .o 23 (.iadr 1) [.t 22, .k 1], .l 24 23, .o 25 (.call 34 []) [.t 24], .m 21 25,
 .e 26 0 21, .e 27 1 21, .f 28 1 5, .s (.store 1) [.t 28, .t 26]]) ( .skip)) <| c_impl_ReadDeed_Y
theorem rd_X : c_impl_ReadDeed_T0 = c_impl_ReadDeed_X := rfl

abbrev wordsT : List (List UInt8) := [[108, 97, 121], [108, 105, 102, 116], [102, 108, 105, 112], [102, 111, 114, 99, 101], [98, 97, 99, 107]]
abbrev signT : List UInt8 := [35, 101, 110, 119, 115]
theorem idx_kind (x : List UInt8) : idxT x wordsT 0 = kindT x := by
  simp only [idxT, kindT, wordK]
  simp

/-- The deed of a text, by the program. -/
def deedI (s : List UInt8) : Int × Int × Int := let ps := cutL 32 s; (kindT (nth ps 0), if 1 < ps.length then atoiV (nth ps 1) else 0, if 2 < ps.length then max 0 (Go.Lib.index signT (nth ps 2)) else 0)

theorem imp_fin : ∀ k : _root_.Fin 5, ∀ s : _root_.Fin 100, ∀ w : _root_.Fin 5, (if txtOk ((k.val : Int), (s.val : Int), (w.val : Int)) then decide (deedI (dText ((k.val : Int), (s.val : Int), (w.val : Int))) = ((k.val : Int), (s.val : Int), (w.val : Int))) else true) = true := by decide +kernel

theorem imp_text {d : Int × Int × Int} (h : txtOk d = true) : deedI (dText d) = d := by
  obtain ⟨k, s, w⟩ := d
  obtain ⟨k', s', w', rfl, rfl, rfl⟩ := txt_range h
  have := imp_fin k' s' w'
  rw [if_pos h] at this
  simpa using this

theorem imp_read (s : List UInt8) : (decide (dText (deedI s) = s) && decide (s ≠ [])) = readB s ∧ (readB s = true → deedI s = readD s) := read_any fun e he hs => by rw [hs]; exact imp_text he

theorem kind_no {s : List UInt8} (h : kindT (nth (cutL 32 s) 0) < 0) : readB s = false := by
  cases hr : readB s with
  | false => rfl
  | true =>
    obtain ⟨h1, h2⟩ := text_read hr
    have h3 := (imp_read s).2 hr
    have h4 : (deedI s).1 = kindT (nth (cutL 32 s) 0) := rfl
    rw [h3] at h4
    obtain ⟨k', s', w', e1, e2, e3⟩ := txt_range (k := (readD s).1) (s := (readD s).2.1) (w := (readD s).2.2) h2
    omega

theorem kind_nil {s : List UInt8} (h : ¬ kindT (nth (cutL 32 s) 0) < 0) : s ≠ [] := by
  rintro rfl
  exact h (by decide)

set_option maxHeartbeats 8000000 in
theorem s_impl_ReadDeed (s : List UInt8) (hs : s.length < 2 ^ 30) : SoundAt Tryz.prog n_impl_ReadDeed [.v (tx s)] (deedO (readD s) (readB s)) [.bot] := by
  have cu := s_strings_Split s 32 hs
  have hlen := cutL_le 32 s
  obtain ⟨p, qs, hps⟩ := cutL_cons 32 s
  have h0 : 0 < (cutL 32 s).length := by rw [hps]; simp
  have dt := s_impl_DeedText (deedI s)
  have dx : deedI s = (kindT (nth (cutL 32 s) 0), if 1 < (cutL 32 s).length then atoiV (nth (cutL 32 s) 1) else 0, if 2 < (cutL 32 s).length then max 0 (Go.Lib.index signT (nth (cutL 32 s) 2)) else 0) := rfl
  have at1 := s_strconv_Atoi (nth (cutL 32 s) 1) (by have := nth_each 32 s 1; omega)
  have ix2 := s_strings_Index signT (nth (cutL 32 s) 2) (by simp)
  have id0 := s_slices_IndexT wordsT (nth (cutL 32 s) 0) (by simp)
  rw [idx_kind] at id0
  obtain ⟨r1, r2⟩ := imp_read s
  have kn := @kind_no s
  have kn0 := @kind_nil s
  have rdd : readD s = if readB s then deedS s else (0, 0, 0) := rfl
  refine fn_ok (md := mdT) (ms := [false]) k_impl_ReadDeed (by simp) ?_
  have T0 : ∀ E : ES, get E 0 = .v (tx s) → get E 2 = .lp 0 0 0 0 → get E 4 = .ls 1 1 0 (cutL 32 s).length → get E 5 = .lp 0 2 0 0 →
      awp Tryz.prog mdT c_impl_ReadDeed_T0 (Fin [RV.c 2 true 3, RV.t 3] 44 1 [false] (deedO (readD s) (readB s)) [AV.bot]) E (rdH (cutL 32 s) (kindT (nth (cutL 32 s) 0)) 0 0) := by
    intro E e0 e2 e4 e5
    rw [rd_X]
    generalize cutL 32 s = ps at *
    clear id0 cu
    by_cases hk : kindT (nth ps 0) < 0
    · have rb' := kn hk
      rw [rdd, rb']
      simp [c_impl_ReadDeed_X, e0, e2, e4, e5, hk, deedO, deedAY]
    have hne := kn0 hk
    rw [decide_eq_true hne, Bool.and_true] at r1
    have fin : ∀ (E : ES) (b c : Int), (b = if 1 < ps.length then atoiV (nth ps 1) else 0) → (c = if 2 < ps.length then max 0 (Go.Lib.index signT (nth ps 2)) else 0) → get E 0 = .v (tx s) → get E 2 = .lp 0 0 0 0 → get E 5 = .lp 0 2 0 0 →
        awp Tryz.prog mdT c_impl_ReadDeed_Z (Fin [RV.c 2 true 3, RV.t 3] 44 1 [false] (deedO (readD s) (readB s)) [AV.bot]) E (rdH ps (kindT (nth ps 0)) b c) := by
      intro E b c hb hc e0 e2 e5
      rw [← hb, ← hc] at dx
      generalize kindT (nth ps 0) = a at *
      rw [dx] at dt r1 r2
      simp only [deedAY] at dt
      generalize dText (a, b, c) = t at *
      by_cases ht : t = s
      · have rb' : readB s = true := by rw [← r1]; simp [ht]
        rw [← r2 rb', rb']
        simp [c_impl_ReadDeed_Z, e0, e2, e5]
        refine call_on dt ?_
        simp [ht, e0, e2, e5, deedO, deedAY]
      · have rb' : readB s = false := by rw [← r1]; simp [ht]
        rw [rdd, rb']
        simp [c_impl_ReadDeed_Z, e0, e2, e5]
        refine call_on dt ?_
        simp [ht, e0, e2, e5, deedO, deedAY]
    have mid : ∀ (E : ES) (b : Int), (b = if 1 < ps.length then atoiV (nth ps 1) else 0) → get E 0 = .v (tx s) → get E 2 = .lp 0 0 0 0 → get E 4 = .ls 1 1 0 ps.length → get E 5 = .lp 0 2 0 0 →
        awp Tryz.prog mdT c_impl_ReadDeed_Y (Fin [RV.c 2 true 3, RV.t 3] 44 1 [false] (deedO (readD s) (readB s)) [AV.bot]) E (rdH ps (kindT (nth ps 0)) b 0) := by
      intro E b hb e0 e2 e4 e5
      by_cases h2 : 2 < ps.length
      · have h2' : (2 : Int) < (ps.length : Int) := by omega
        have hg2 : ps[2] = nth ps 2 := by simp [nth, h2]
        rw [if_pos h2] at fin
        simp [c_impl_ReadDeed_Y, e0, e2, e4, e5, h2, h2', hg2]
        refine call_on ix2 ?_
        simp [e0, e2, e4, e5]
        refine fin _ _ _ hb ?_ ?_ ?_ ?_
        · split <;> omega
        all_goals simp [get, e0, e2, e5]
      · have h2' : ¬ (2 : Int) < (ps.length : Int) := by omega
        rw [if_neg h2] at fin
        simp [c_impl_ReadDeed_Y, e0, e2, e4, e5, h2, h2']
        refine fin _ _ _ hb rfl ?_ ?_ ?_ <;> simp [get, e0, e2, e5]
    by_cases h1 : 1 < ps.length
    · have h1' : (1 : Int) < (ps.length : Int) := by omega
      have hg1 : ps[1] = nth ps 1 := by simp [nth, h1]
      rw [if_pos h1] at mid
      simp [c_impl_ReadDeed_X, e0, e2, e4, e5, hk, h1, h1', hg1]
      refine call_on at1 ?_
      simp [e0, e2, e4, e5]
      refine mid _ _ rfl ?_ ?_ ?_ ?_ <;> simp [get, e0, e2, e4, e5]
    · have h1' : ¬ (1 : Int) < (ps.length : Int) := by omega
      rw [if_neg h1] at mid
      simp [c_impl_ReadDeed_X, e0, e2, e4, e5, hk, h1, h1']
      refine mid _ _ rfl ?_ ?_ ?_ ?_ <;> simp [get, e0, e2, e4, e5]
  simp [c_impl_ReadDeed]
  refine call_on cu ?_
  generalize cutL 32 s = ps at *
  have hg0 : ps[0] = nth ps 0 := by simp [nth, h0]
  simp [h0, hg0]
  (repeat' first | omega | apply And.intro) <;>
  · refine call_on id0 ?_
    simp [txs]
    exact T0 _ rfl rfl rfl rfl

end Go.Proofs.Dev

namespace Go.Proofs.Dev
open Go.RowKit
set_option linter.unusedSimpArgs false
set_option maxRecDepth 100000

@[simp] def md10 (f : Nat) : List Bool := if f = 6 ∨ f = 11 then [true] else if f = 36 then [true, false] else md8 f

def drawDT (r : AV) (ups : List AV) : Prop := ∃ d : Int × Int × Int, r = .agg [.v (.int .i64 d.1), .v (.int .i64 d.2.1), .v (.int .i64 d.2.2)] ∧ ups = [.bot]
def drawRD (r : AV) (ups : List AV) : Prop := ∃ s : List UInt8, r = .v (tx s) ∧ s.length ≤ 50 ∧ ups = [.bot]

def spSet (bs : List Int) (r : AV) (ups : List AV) : Prop := ∃ (t : List UInt8) (q : Nat), r = .v (tx t) ∧ t.length ≤ 50 ∧ ups = [rdA bs q, .bot]

theorem s_spec_l20Spoil (bs : List Int) (p : Nat) (s : List UInt8) (hb : bs.length ≤ 2000) (hB : Byt bs) (hp : p < 2 ^ 38) (hs : s.length ≤ 20) :
    SoundSet Tryz.prog n_spec_l20Spoil [rdA bs p, .v (tx s)] (spSet bs) := by
  refine fn_okS (md := md10) (ms := [true, false]) k_spec_l20Spoil (by simp) ?_
  by_cases h0 : s.length = 0
  · have : s = [] := List.eq_nil_of_length_eq_zero h0
    subst this
    simp [c_spec_l20Spoil]
    have fin : spSet bs (.v (tx [10])) [rdA bs p, .bot] := ⟨[10], p, rfl, by simp, rfl⟩
    refine ⟨_, _, fin, ?_⟩
    simp
  · have h0' : ¬ (s.length : Int) = 0 := by omega
    have hne : ¬ s = [] := fun e => h0 (by rw [e]; rfl)
    simp [c_spec_l20Spoil, h0, h0', hne]
    refine call_onK (s_spec_l20Rd_pick bs p s.length hb hB (by omega)) [0] (by simp) (by simp) (by simp) ?_
    rintro _ _ ⟨k, k0, k1, rfl, rfl⟩
    obtain ⟨k, rfl⟩ := Int.eq_ofNat_of_zero_le k0
    have hk1 : (0 : Int) ≤ (k : Int) + 1 := by omega
    have hk2 : k + 1 ≤ s.length := by omega
    have hk3 : k ≤ s.length := by omega
    simp [hk1, hk2, hk3]
    refine ⟨by omega, ?_⟩
    have lt : (List.take k s).length ≤ 20 := by rw [List.length_take]; omega
    have ld : (List.take (s.length - (k + 1)) (List.drop (k + 1) s)).length ≤ 20 := by rw [List.length_take]; omega
    generalize List.take k s = a at *
    generalize List.take (s.length - (k + 1)) (List.drop (k + 1) s) = b at *
    have fin : ∀ (o : List UInt8) (q : Nat), o.length ≤ 50 → spSet bs (.v (tx o)) [rdA bs q, .bot] := fun o q h => ⟨o, q, rfl, h, rfl⟩
    refine ⟨?_, ?_⟩ <;>
    · refine call_onK (s_spec_l20Rd_pick bs (p + 1) 6 hb hB (by omega)) [0] (by simp) (by simp) (by simp) ?_
      rintro _ _ ⟨y, y0, y1, rfl, rfl⟩
      obtain rfl | rfl | rfl | rfl | rfl | rfl : y = 0 ∨ y = 1 ∨ y = 2 ∨ y = 3 ∨ y = 4 ∨ y = 5 := by omega
      all_goals
        simp
        refine ⟨by omega, by omega, ?_⟩
        first
        | (refine ⟨_, _, fin (a ++ b) (p + 1 + 1) (by simp; omega), ?_⟩; simp; done)
        | (refine ⟨_, _, fin (a ++ 48 :: b) (p + 1 + 1) (by simp; omega), ?_⟩; simp; done)
        | (refine ⟨_, _, fin (a ++ 32 :: b) (p + 1 + 1) (by simp; omega), ?_⟩; simp; done)
        | (refine ⟨_, _, fin (a ++ 10 :: b) (p + 1 + 1) (by simp; omega), ?_⟩; simp; done)
        | (refine ⟨_, _, fin (a ++ 101 :: b) (p + 1 + 1) (by simp; omega), ?_⟩; simp; done)
        | (refine ⟨_, _, fin (a ++ 98 :: 97 :: 99 :: 107 :: b) (p + 1 + 1) (by simp; omega), ?_⟩; simp; done)

section
variable (bs : List Int) (hb : bs.length ≤ 2 ^ 60) (hB : Byt bs)
include hb hB

theorem s_spec_DrawDeedText : SoundSet Tryz.prog n_spec_DrawDeedText [.sl 0 1 (u8s bs)] drawDT := by
  have hB' := byt_take hB 2000
  have hb' : (bs.take 2000).length ≤ 2000 := by rw [List.length_take]; exact Nat.min_le_left _ _
  refine fn_okS (md := md10) (ms := [false]) k_spec_DrawDeedText (by simp) ?_
  simp [c_spec_DrawDeedText]
  refine call_on (s_spec_l20Open bs hb) ?_
  generalize bs.take 2000 = bt at *
  simp
  refine call_onK (s_spec_l20Book bt 0 0 hb' hB' (by omega) (by omega) (by omega)) [1] (by simp) (by simp) (by simp) ?_
  rintro _ _ ⟨W, T, cs, ds, ls, ps, q, h1, h2, h3, h4, h5, hq, rfl, rfl⟩
  simp
  have de := s_spec_l20Deed bt q W T cs ds ls ps hb' hB' (by omega) (by omega) (by omega) (by omega)
  refine call_onK de [1] (by simp) (by simp) (by simp) ?_
  rintro _ _ ⟨k, sp, w, q2, k0, k1, s0, s1, w0, w1, hq2, rfl, rfl⟩
  simp
  refine call_onK (s_spec_l20Rd_odd bt q2 9 hb' hB' (by omega) (by omega)) [1] (by simp) (by simp) (by simp) ?_
  rintro _ _ ⟨o, q3, rfl, hq3, rfl⟩
  have fin : ∀ k s w : Int, drawDT (.agg [.v (.int .i64 k), .v (.int .i64 s), .v (.int .i64 w)]) [.bot] := fun k s w => ⟨(k, s, w), rfl, rfl⟩
  cases o with
  | true =>
    simp
    refine call_onK (s_spec_l20Rd_pick bt q3 7 hb' hB' (by omega)) [1] (by simp) (by simp) (by simp) ?_
    rintro _ _ ⟨x, x0, x1, rfl, rfl⟩
    simp
    refine ⟨by omega, ?_⟩
    refine ⟨_, _, fin k sp (x - 1), ?_⟩
    simp
  | false =>
    simp
    refine ⟨_, _, fin k sp w, ?_⟩
    simp

theorem s_spec_DrawReadDeed : SoundSet Tryz.prog n_spec_DrawReadDeed [.sl 0 1 (u8s bs)] drawRD := by
  have hB' := byt_take hB 2000
  have hb' : (bs.take 2000).length ≤ 2000 := by rw [List.length_take]; exact Nat.min_le_left _ _
  refine fn_okS (md := md10) (ms := [false]) k_spec_DrawReadDeed (by simp) ?_
  simp [c_spec_DrawReadDeed]
  refine call_on (s_spec_l20Open bs hb) ?_
  generalize bs.take 2000 = bt at *
  simp
  refine call_onK (s_spec_l20Book bt 0 0 hb' hB' (by omega) (by omega) (by omega)) [0] (by simp) (by simp) (by simp) ?_
  rintro _ _ ⟨W, T, cs, ds, ls, ps, q, h1, h2, h3, h4, h5, hq, rfl, rfl⟩
  simp
  have de := s_spec_l20Deed bt q W T cs ds ls ps hb' hB' (by omega) (by omega) (by omega) (by omega)
  refine call_onK de [0] (by simp) (by simp) (by simp) ?_
  rintro _ _ ⟨k, sp, w, q2, k0, k1, s0, s1, w0, w1, hq2, rfl, rfl⟩
  have dt := s_spec_DeedText (k, sp, w)
  have hlen := deed_len (k, sp, w)
  simp only [deedAY] at dt
  generalize dText (k, sp, w) = t at *
  simp
  refine call_on dt ?_
  simp
  refine call_onK (s_spec_l20Rd_pick bt q2 3 hb' hB' (by omega)) [0] (by simp) (by simp) (by simp) ?_
  rintro _ _ ⟨x, x0, x1, rfl, rfl⟩
  by_cases hx : x = 0
  · simp [hx]
    refine call_onK (s_spec_l20Spoil bt (q2 + 1) t hb' hB' (by omega) (by omega)) [0] (by simp) (by simp) (by simp) ?_
    rintro _ _ ⟨t2, q3, rfl, ht2, rfl⟩
    simp
    exact ⟨_, _, ⟨t2, rfl, ht2, rfl⟩, by simp⟩
  · simp [hx]
    exact ⟨_, _, ⟨t, rfl, by omega, rfl⟩, by simp⟩

end

theorem l_FnDeedText (bs : List Int) (hB : Byt bs) : SoundAt Tryz.prog n_laws_FnDeedText [.sl 0 1 (u8s bs)] (.v (.bool true)) [.bot] := by
  refine fn_ok (md := md10) (ms := [false]) k_laws_FnDeedText (by simp) ?_
  simp [c_laws_FnDeedText]
  refine fun hsz => ?_
  have hb : bs.length ≤ 2 ^ 60 := by omega
  refine call_onK (s_spec_DrawDeedText bs hb hB) [] (by simp) (by simp) (by simp) ?_
  rintro _ _ ⟨⟨k, sp, w⟩, rfl, rfl⟩
  have one := s_impl_DeedText (k, sp, w)
  have two := s_spec_DeedText (k, sp, w)
  have hlen := deed_len (k, sp, w)
  simp only [deedAY] at one two
  cases ht : txtOk (k, sp, w) with
  | true =>
    obtain ⟨r1, r2⟩ := read_text ht
    have hne := (deed_text ht).2
    have rd := s_impl_ReadDeed (dText (k, sp, w)) (by omega)
    rw [r1, r2] at rd
    simp only [deedO, deedAY] at rd
    generalize dText (k, sp, w) = t at *
    simp
    refine call_on one ?_
    simp
    refine call_on two ?_
    simp [hne]
    refine call_on rd ?_
    simp
  | false =>
    rw [(dText_nil (k, sp, w)).2 ht] at one two
    simp
    refine call_on one ?_
    simp
    refine call_on two ?_
    simp
    refine call_on s_laws_alive ?_
    simp

theorem l_FnReadDeed (bs : List Int) (hB : Byt bs) : SoundAt Tryz.prog n_laws_FnReadDeed [.sl 0 1 (u8s bs)] (.v (.bool true)) [.bot] := by
  refine fn_ok (md := md10) (ms := [false]) k_laws_FnReadDeed (by simp) ?_
  simp [c_laws_FnReadDeed]
  refine fun hsz => ?_
  have hb : bs.length ≤ 2 ^ 60 := by omega
  refine call_onK (s_spec_DrawReadDeed bs hb hB) [] (by simp) (by simp) (by simp) ?_
  rintro _ _ ⟨s, rfl, hs, rfl⟩
  have im := s_impl_ReadDeed s (by omega)
  have sp := s_spec_ReadDeed s (by omega)
  have mo := s_impl_ReadDeed (s ++ [32]) (by simp; omega)
  have hm := deed_more s
  have hmd : readD (s ++ [32]) = (0, 0, 0) := by rw [readD, if_neg (by rw [hm]; simp)]
  rw [hm, hmd] at mo
  simp only [deedO, deedAY] at im sp mo
  cases h : readB s with
  | true =>
    obtain ⟨t1, t2⟩ := text_read h
    have tx := s_impl_DeedText (readD s)
    rw [t1] at tx
    simp only [deedAY] at tx
    rw [h] at im sp
    generalize readD s = d at *
    simp
    refine call_on im ?_
    simp
    refine call_on sp ?_
    simp
    refine ⟨by omega, ?_⟩
    refine call_on mo ?_
    simp
    refine call_on tx ?_
    simp
  | false =>
    have hd : readD s = (0, 0, 0) := by rw [readD, if_neg (by rw [h]; simp)]
    rw [h, hd] at im sp
    simp
    refine call_on im ?_
    simp
    refine call_on sp ?_
    simp
    refine call_on s_laws_alive ?_
    simp

end Go.Proofs.Dev
