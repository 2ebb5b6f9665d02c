/- Contracts of the functions of the program over slots and rows, each proved against the program itself; no condition beyond those that each theorem names. -/
import Derived.Test.YtfkmfobbgoflgaaGreatDoorAR
import Derived.Test.YtfkmfobbgoflgaaGreatDoorProg
import Derived.Test.YtfkmfobbgoflgaaGreatDoorAH
import Derived.Test.YtfkmfobbgoflgaaGreatDoorAI
set_option linter.unusedSimpArgs false
set_option linter.unusedVariables false
set_option maxRecDepth 100000
namespace Go.Proofs.Dev
def F7 (cs : List Bool) : Nat → Bool := fun i => atb cs i
def tmI (W T : Int) (cs : List Bool) : Int := if A3 W T cs = true then ((PF W T cs.length 0 (F7 cs) : Nat) : Int) else -1
theorem aH {cs : List Bool} : ∀ i, cs.length ≤ i → F7 cs i = false := by
 intro i hi
 simp [F7, atb, List.getElem?_eq_none hi]
theorem gi {s : Nat} {W : Int} (h : s < 2 ^ W.toNat) : (s : Int) / 2 ^ W.toNat = 0 := by
 have : ((2 ^ W.toNat : Nat) : Int) = 2 ^ W.toNat := by simp
 rw [← this]
 exact Int.ediv_eq_zero_of_lt (by omega) (by omega)
set_option maxHeartbeats 4000000 in
theorem pK (W T : Int) (cs : List Bool) (hr : A3 W T cs = true) (c tot : Nat) (hc : c < cs.length) (P : List (Nat × Nat)) (hP : OkP W T (F7 cs) cs.length c tot P) {Qc : AExit → ES → AM → Prop} {E : ES} {H : AM}
  (hE : E = [(1, .lp 0 0 0 0), (3, .ls 1 1 0 P.length), (4, .ls 1 2 0 P.length), (5, .v (.int .i64 c)), (6, .ls 1 3 0 0), (7, .ls 1 4 0 0), (8, .v (.int .i64 0))])
  (hH : H = [VE W T cs, some (.arr 1 (AC (fsL P))), some (.arr 1 (AC (snL P))), some (.arr 1 []), some (.arr 1 [])])
  (hend : ∀ Q, MidP W T (F7 cs) cs.length c P P.length Q → Qc (.exit 2) [(35, .v (.bool false)), (34, .v (.int .i64 P.length)), (33, .ls 1 1 0 P.length), (32, .v (.int .i64 P.length)), (1, .lp 0 0 0 0), (3, .ls 1 1 0 P.length), (4, .ls 1 2 0 P.length), (5, .v (.int .i64 c)), (6, .ls 1 3 0 Q.length), (7, .ls 1 4 0 Q.length), (8, .v (.int .i64 P.length))]
   [VE W T cs, some (.arr 1 (AC (fsL P))), some (.arr 1 (AC (snL P))), some (.arr 1 (AC (fsL Q))), some (.arr 1 (AC (snL Q)))]) :
  CH [(3, 1), (4, 1), (6, 1), (7, 1)] [1, 3, 4, 5, 6, 7, 8] (awp Tryz.prog md0 BD) Qc E H := by
 subst hE hH
 obtain ⟨w1, w2, t1, t2, l1, _⟩ := BI hr
 have h36 := AZ hr
 have hpow : 2 ^ c ≤ 2 ^ 36 := Nat.pow_le_pow_right (by omega) (by omega)
 have hPl : P.length ≤ 2 ^ 36 := Nat.le_trans hP.len hpow
 have hPs : LA (fun _ => 1) P ≤ 2 ^ 36 := Nat.le_trans hP.sum hpow
 refine AH (fun m E H => ∃ (k : Nat) (Q : List (Nat × Nat)), m = P.length - k ∧ k ≤ P.length ∧ MidP W T (F7 cs) cs.length c P k Q ∧
  H = [VE W T cs, some (.arr 1 (AC (fsL P))), some (.arr 1 (AC (snL P))), some (.arr 1 (AC (fsL Q))), some (.arr 1 (AC (snL Q)))] ∧
  E = [(1, .lp 0 0 0 0), (3, .ls 1 1 0 P.length), (4, .ls 1 2 0 P.length), (5, .v (.int .i64 c)), (6, .ls 1 3 0 Q.length), (7, .ls 1 4 0 Q.length), (8, .v (.int .i64 k))]) P.length ⟨0, [], rfl, by omega, gX, by simp [fsL, snL], by simp⟩ ?_
 rintro J hJ m E H ⟨k, Q, rfl, hk', hQ, rfl, rfl⟩
 by_cases hk : k < P.length
 case neg =>
  have : k = P.length := by omega
  subst this
  simp [BD]
  exact hend Q hQ
 obtain ⟨⟨s, v⟩, hp⟩ : ∃ p, P[k] = p := ⟨_, rfl⟩
 have hpk : P[k]? = some (s, v) := by simp [hk, hp]
 have hsa : ati (fsL P) k = (s : Int) := by rw [dh hk, hp]
 have hv : P[k].2 = v := by rw [hp]
 have hlt := hP.lt _ (List.mem_of_getElem? hpk)
 have hw := dk hk
 rw [hv] at hw
 have hQl := hQ.len
 have hQs := hQ.sum
 have hQs2 := YC (fun _ => 1) P k
 have hol := aA (W := W) (T := T) (F := F7 cs) (c := c) (s := s)
 have hmul : v * (LM W T (F7 cs) c s).length ≤ v * 2 := Nat.mul_le_mul_left _ hol
 have hmid := gY w1 aH hc hP hpk hQ
 have next : Cx J (P.length - k) [(1, .lp 0 0 0 0), (3, .ls 1 1 0 P.length), (4, .ls 1 2 0 P.length), (5, .v (.int .i64 c)), (6, .ls 1 3 0 (Cu Q (LM W T (F7 cs) c s) v).length), (7, .ls 1 4 0 (Cu Q (LM W T (F7 cs) c s) v).length), (8, .v (.int .i64 (k + 1)))]
   [VE W T cs, some (.arr 1 (AC (fsL P))), some (.arr 1 (AC (snL P))), some (.arr 1 (AC (fsL (Cu Q (LM W T (F7 cs) c s) v)))), some (.arr 1 (AC (snL (Cu Q (LM W T (F7 cs) c s) v))))] :=
  ⟨_, by omega, hJ _ _ _ ⟨k + 1, _, rfl, hk, hmid, rfl, by simp⟩⟩
 have hl1 := fun {Qc E H} hE hH hend => pJ W T cs P Q (LM W T (F7 cs) c s) c k v hk hv hPl (by omega) (by omega) (Qc := Qc) (E := E) (H := H) hE hH hend
 have hW1 : (W - 1).toNat = W.toNat - 1 := by omega
 have hshr := gi hlt.1
 have hcov : (s % 2 = 1 ∨ F7 cs c = false) ∨ (s % 2 = 0 ∧ F7 cs c = true) := by
  rcases Nat.mod_two_eq_zero_or_one s with h | h
  ·cases hF : F7 cs c with
   | false => exact .inl (.inr rfl)
   | true => exact .inr ⟨h, rfl⟩
  ·exact .inl (.inl h)
 rcases hcov with hcov | ⟨hs0, hF⟩
 ·have hopts : LM W T (F7 cs) c s = [s / 2] := by unfold LM; rw [if_pos hcov]
  have hcond : (s % 2 = 1) ∨ (s % 2 = 0 ∧ atb cs c = false) := by
   rcases hcov with h | h
   ·exact .inl h
   ·rcases Nat.mod_two_eq_zero_or_one s with h2 | h2
    ·exact .inr ⟨h2, h⟩
    ·exact .inl h2
  rcases hcond with h | ⟨h, h3⟩
  ·have h' : (s : Int) % 2 = 1 := by omega
   simp [BD, hk, hsa, h', hc]
   have hs64 : s < 2 ^ 6 := Nat.lt_of_lt_of_le hlt.1 (Nat.pow_le_pow_right (by omega) (by omega))
   refine ⟨by omega, hl1 ?_ ?_ ?_⟩
   ·simp [hopts]
   ·simp [hopts, bW, AC]
   simp
   exact ⟨by omega, next⟩
  ·have h' : (s : Int) % 2 = 0 := by omega
   simp [BD, hk, hsa, h', hc, h3]
   have hs64 : s < 2 ^ 6 := Nat.lt_of_lt_of_le hlt.1 (Nat.pow_le_pow_right (by omega) (by omega))
   refine ⟨by omega, hl1 ?_ ?_ ?_⟩
   ·simp [hopts]
   ·simp [hopts, bW, AC]
   simp
   exact ⟨by omega, next⟩
 have hFc : atb cs c = true := hF
 have h' : (s : Int) % 2 = 0 := by omega
 have hopts : LM W T (F7 cs) c s = (if 0 ≤ AF W T c 1 ∧ F7 cs (c + 1) = true ∧ s / 2 % 2 = 0 then [s / 2 + 1] else []) ++ (if 0 ≤ AF W T c 2 ∧ F7 cs (c + W.toNat) = true then [s / 2 + 2 ^ (W.toNat - 1)] else []) := by
  unfold LM; rw [if_neg (by simp [hF]; omega)]
 have two1 := C2 W T cs c 1 hr (by omega) (by omega)
 have two2 := C2 W T cs c 2 hr (by omega) (by omega)
 have hst1 := C1 (T := T) (k := c) (way := 1) w1 (by omega) (by omega)
 have hst2 := C1 (T := T) (k := c) (way := 2) w1 (by omega) (by omega)
 simp [BD, hk, hsa, h', hc, hFc]
 refine AA two1 ?_
 simp
 refine AA two2 ?_
 have eE : (AF W T c 1 = -1 ∧ AF W T c 1 = -1 ∧ AF W T c 1 = -1 ∧ AF W T c 1 = -1 ∧ AF W T c 1 = -1) ∨ (AF W T c 1 = (c : Int) + 1 ∧ (c : Int) + 1 < cs.length ∧ atb cs ((c : Int) + 1) = false ∧ atb cs ((c : Int) + 1) = false ∧ atb cs ((c : Int) + 1) = false) ∨
   (AF W T c 1 = (c : Int) + 1 ∧ (c : Int) + 1 < cs.length ∧ atb cs ((c : Int) + 1) = true ∧ s / 2 % 2 = 1 ∧ (s : Int) / 2 % 2 = 1) ∨ (AF W T c 1 = (c : Int) + 1 ∧ (c : Int) + 1 < cs.length ∧ atb cs ((c : Int) + 1) = true ∧ s / 2 % 2 = 0 ∧ (s : Int) / 2 % 2 = 0) := by
  rcases hst1 with h | h
  ·exact .inl ⟨h, h, h, h, h⟩
  ·have h3 := nN (W := W) (T := T) (c := c) h.1
   have h4 : AF W T c 1 = (c : Int) + 1 := by omega
   have h5 : (c : Int) + 1 < cs.length := by omega
   cases h6 : atb cs ((c : Int) + 1) with
   | false => exact .inr (.inl ⟨h4, h5, rfl, rfl, rfl⟩)
   | true =>
     rcases Nat.mod_two_eq_zero_or_one (s / 2) with h7 | h7
     ·exact .inr (.inr (.inr ⟨h4, h5, rfl, h7, by omega⟩))
     ·exact .inr (.inr (.inl ⟨h4, h5, rfl, h7, by omega⟩))
 have eN : (AF W T c 2 = -1 ∧ AF W T c 2 = -1 ∧ AF W T c 2 = -1) ∨ (AF W T c 2 = (c : Int) + W ∧ (c : Int) + W < cs.length ∧ atb cs ((c : Int) + W) = false) ∨ (AF W T c 2 = (c : Int) + W ∧ (c : Int) + W < cs.length ∧ atb cs ((c : Int) + W) = true) := by
  rcases hst2 with h | h
  ·exact .inl ⟨h, h, h⟩
  ·have h3 := nO (W := W) (T := T) (c := c) w1 h.1
   have h4 : AF W T c 2 = (c : Int) + W := by omega
   have h5 : (c : Int) + W < cs.length := by omega
   cases h6 : atb cs ((c : Int) + W) with
   | false => exact .inr (.inl ⟨h4, h5, rfl⟩)
   | true => exact .inr (.inr ⟨h4, h5, rfl⟩)
 have fN : F7 cs (c + W.toNat) = atb cs ((c : Int) + W) := by
  unfold F7; congr 1; omega
 have fE : F7 cs (c + 1) = atb cs ((c : Int) + 1) := rfl
 rw [fE, fN] at hopts
 clear hst1 hst2 two1 two2
 have n1 : 0 ≤ (c : Int) + 1 := by omega
 have n2 : 0 ≤ (c : Int) + W := by omega
 have n3 : W ≤ 63 := by omega
 have n4 : 0 ≤ W - 1 := by omega
 have n5 : W - 1 ≤ 62 := by omega
 have n6 : 0 ≤ W := by omega
 have hpw : (2 : Int) ^ (W.toNat - 1) ≤ 32 ∧ 1 ≤ (2 : Int) ^ (W.toNat - 1) := by
  have h1 : 2 ^ (W.toNat - 1) ≤ 2 ^ 5 := Nat.pow_le_pow_right (by omega) (by omega)
  have h2 : 0 < 2 ^ (W.toNat - 1) := Nat.pow_pos (by omega)
  have h3 : ((2 ^ (W.toNat - 1) : Nat) : Int) = 2 ^ (W.toNat - 1) := by simp
  omega
 have hs64 : s < 64 := by
  have h1 : 2 ^ W.toNat ≤ 2 ^ 6 := Nat.pow_le_pow_right (by omega) (by omega)
  have := hlt.1
  omega
 rcases eE with ⟨a1, a2, a3, a4, a5⟩ | ⟨a1, a2, a3, a4, a5⟩ | ⟨a1, a2, a3, a4, a5⟩ | ⟨a1, a2, a3, a4, a5⟩ <;> rcases eN with ⟨b1, b2, b3⟩ | ⟨b1, b2, b3⟩ | ⟨b1, b2, b3⟩ <;>
 ·simp [a1, a2, a3, a5, b1, b2, b3, n1, n2, n3, n4, n5, n6, hshr, hW1]
  (repeat' first | omega | (refine hl1 ?_ ?_ ?_) | apply And.intro)
  ·simp [hopts, a1, a2, a3, a4, b1, b2, b3, n1, n2]
  ·simp [hopts, a1, a2, a3, a4, b1, b2, b3, n1, n2, bW, AC]
  ·simp
   exact ⟨by omega, next⟩
theorem Fo (W T : Int) (cs : List Bool) (hb : cs.length < 2 ^ 40) :
  SoundAt Tryz.prog Jj [.agg [.v (.int .i64 W), .v (.int .i64 T), .sl 1 1 (AD cs)]] (.v (.int .i64 (tmI W T cs))) [.bot] := by
 refine AJ (md := md0) (ms := [false]) QU (by simp) ?_
 simp [Jk]
 refine AA (An W T cs hb) ?_
 cases hr : A3 W T cs with
 | false => simp [tmI, hr]
 | true =>
 have h36 := AZ hr
 obtain ⟨w1, w2, t1, t2, l1, _⟩ := BI hr
 simp
 refine AH (fun m E H => ∃ (c : Nat) (P : List (Nat × Nat)), m = cs.length - c ∧ c ≤ cs.length ∧ OkP W T (F7 cs) cs.length c (PF W T cs.length 0 (F7 cs)) P ∧
  H = [VE W T cs, some (.arr 1 (AC (fsL P))), some (.arr 1 (AC (snL P)))] ∧
  E = [(1, .lp 0 0 0 0), (3, .ls 1 1 0 P.length), (4, .ls 1 2 0 P.length), (5, .v (.int .i64 c))]) cs.length ⟨0, [(0, 1)], rfl, by omega, dX w1, by simp [fsL, snL, AC], by simp⟩ ?_
 rintro J hJ m E H ⟨c, P, rfl, hc', hP, rfl, rfl⟩
 by_cases hc : c < cs.length
 ·simp [D7, hc]
  refine pK W T cs hr c _ hc P hP rfl rfl ?_
  intro Q hQ
  simp
  exact ⟨by omega, _, by omega, hJ _ _ _ ⟨c + 1, Q, rfl, hc, kR hP hQ, rfl, by simp⟩⟩
 have : c = cs.length := by omega
 subst this
 obtain ⟨e1, e2⟩ := kS hP
 have hPs : LA (fun _ => 1) P ≤ 2 ^ 36 := Nat.le_trans hP.sum (Nat.pow_le_pow_right (by omega) h36)
 have hPl : P.length ≤ 2 ^ 36 := Nat.le_trans hP.len (Nat.pow_le_pow_right (by omega) h36)
 have hfin : tmI W T cs = ((LA (fun _ => 1) P : Nat) : Int) := by rw [tmI, if_pos hr, e2]
 rw [hfin]
 simp [D7]
 clear hJ J
 refine AH (fun m E H => ∃ k : Nat, m = P.length - k ∧ k ≤ P.length ∧
  H = [some (.arr 1 (AC (fsL P))), some (.arr 1 (AC (snL P)))] ∧
  E = [(3, .ls 1 0 0 P.length), (4, .ls 1 1 0 P.length), (16, .v (.int .i64 (LA (fun _ => 1) (P.take k)))), (17, .v (.int .i64 k))]) P.length ⟨0, by simp [LA]⟩ ?_
 rintro J hJ m E H ⟨k, rfl, hk', rfl, rfl⟩
 by_cases hk : k < P.length
 ·have h0 : ati (fsL P) k = 0 := by
   rw [dh hk]
   have := e1 P[k] (List.getElem_mem hk)
   omega
  have h1 := di hk
  have h2 : LA (fun _ => 1) (P.take (k + 1)) = LA (fun _ => 1) (P.take k) + P[k].2 := by
   rw [List.take_succ_eq_append_getElem hk, Ic]; simp [LA]
  have h3 := YC (fun _ => 1) P (k + 1)
  simp [D8, hk, h0, h1]
  exact ⟨by omega, by omega, _, by omega, hJ _ _ _ ⟨k + 1, rfl, hk, rfl, by rw [h2]; simp⟩⟩
 ·have : k = P.length := by omega
  subst this
  simp [D8]
theorem Qa : ∀ (cs : List Bool) (i : Nat), BH (cs.set i false) ≤ BH cs
 | [], i => by simp
 | c :: cs, 0 => by simp [BH]
 | c :: cs, i + 1 => by have := Qa cs i; simp [BH]; omega
def MU (cs : List Bool) (xs : List Int) : List Bool := xs.foldl (fun cs x => cs.set x.toNat false) cs
@[simp] theorem NF : ∀ (xs : List Int) (cs : List Bool), (MU cs xs).length = cs.length
  | [], cs => rfl
  | x :: xs, cs => by
    have := NF xs (cs.set x.toNat false)
    unfold MU at this ⊢
    rw [List.foldl_cons, this]; simp
theorem V6 : ∀ (xs : List Int) (cs : List Bool), BH (MU cs xs) ≤ BH cs
 | [], cs => Nat.le_refl _
 | x :: xs, cs => by
   have := V6 xs (cs.set x.toNat false)
   have h2 := Qa cs x.toNat
   unfold MU at this ⊢
   rw [List.foldl_cons]; omega
theorem dm {W T : Int} {cs : List Bool} (xs : List Int) (hr : A3 W T cs = true) : A3 W T (MU cs xs) = true := by
 obtain ⟨w1, w2, t1, t2, l1, m⟩ := BI hr
 have := V6 xs cs
 simp only [A3, decide_eq_true_eq]
 exact ⟨w1, w2, t1, t2, by rw [NF]; exact l1, by omega⟩
theorem bX {cs : List Bool} {xs : List Int} {k : Nat} (h : k < xs.length) : MU cs (xs.take (k + 1)) = (MU cs (xs.take k)).set (ati xs k).toNat false := by
 unfold MU
 rw [List.take_succ_eq_append_getElem h, List.foldl_append]
 simp [ati, h]
theorem aI : ∀ (xs : List Int) (cs : List Bool) (i : Nat), (∀ x ∈ xs, 0 ≤ x) → atb (MU cs xs) i = (atb cs i && !decide ((i : Int) ∈ xs))
 | [], cs, i, _ => by simp [MU]
 | x :: xs, cs, i, hx => by
   have ih := aI xs (cs.set x.toNat false) i (fun y hy => hx y (by simp [hy]))
   have h0 := hx x (by simp)
   unfold MU at ih ⊢
   rw [List.foldl_cons, ih]
   have e : atb (cs.set x.toNat false) i = (atb cs i && !decide ((i : Int) = x)) := by
    simp only [atb, Int.toNat_natCast, List.getD_eq_getElem?_getD, List.getElem?_set]
    by_cases h : x.toNat = i
    ·have h2 : (i : Int) = x := by omega
     rw [if_pos h]
     by_cases h3 : x.toNat < cs.length
     ·simp [h2, h3]
     ·simp [h2, h3]
    ·have h2 : ¬ (i : Int) = x := by omega
     rw [if_neg h]; simp [h2]
   rw [e]
   by_cases h1 : (i : Int) = x
   ·simp [h1]
   ·simp [h1]
theorem XJ (W T : Int) (cs : List Bool) (xs : List Int) (hb : cs.length < 2 ^ 40) (hl : xs.length < 2 ^ 40) (hx : ∀ x ∈ xs, 0 ≤ x ∧ x < cs.length) :
  SoundAt Tryz.prog QV [.agg [.v (.int .i64 W), .v (.int .i64 T), .sl 1 1 (AD cs)], .sl 1 1 (AC xs)] (.agg [.v (.int .i64 W), .v (.int .i64 T), .os 1 (AD (MU cs xs))]) [.bot, .bot] := by
 refine Vv (md := md0) (ms := [false, false]) XG (by simp) ?_
 simp [NC]
 refine Vw rfl rfl rfl ?_
 simp
 refine ⟨by omega, ?_⟩
 simp [L3]
 refine AH (fun m E H => ∃ k : Nat, m = xs.length - k ∧ k ≤ xs.length ∧
  H = [some (.box [.v (.int .i64 0), .v (.int .i64 0), .os 1 []]), some (.box [.v (.int .i64 W), .v (.int .i64 T), .ls 1 2 0 cs.length]), some (.arr 1 (AD (MU cs (xs.take k))))] ∧
  E = [(1, .sl 1 1 (AC xs)), (4, .lp 0 0 0 0), (5, .lp 0 1 0 0), (6, .v (.int .i64 k))]) xs.length ⟨0, by simp [MU]⟩ ?_
 rintro J hJ m E H ⟨k, rfl, hk', rfl, rfl⟩
 by_cases hk : k < xs.length
 case neg =>
  have : k = xs.length := by omega
  subst this
  simp [HV]
  exact List.take_of_length_le (by simp)
 have hin : ati xs k ∈ xs := by simp [ati, hk]
 obtain ⟨h0, h1⟩ := hx _ hin
 have hstep := bX (cs := cs) hk
 simp [HV, hk, h0, h1, Xr]
 refine ⟨by omega, _, by omega, hJ _ _ _ ⟨k + 1, rfl, hk, by rw [hstep], by simp⟩⟩
def XU (ls : List Int) (n : Nat) : List Int := (List.range n).flatMap fun k : Nat => if ati ls k = 0 then [] else [(k : Int)]
theorem YK (ls : List Int) (n : Nat) : XU ls (n + 1) = XU ls n ++ if ati ls n = 0 then [] else [(n : Int)] := by simp [XU, List.range_succ]
theorem UD (ls : List Int) : ∀ n, (XU ls n).length ≤ n
 | 0 => by simp [XU]
 | n + 1 => by have := UD ls n; rw [YK]; split <;> simp <;> omega
theorem covL_mem {ls : List Int} {n : Nat} {x : Int} : x ∈ XU ls n ↔ ∃ k : Nat, k < n ∧ ati ls k ≠ 0 ∧ x = k := by
 simp only [XU, List.mem_flatMap, List.mem_range]
 constructor
 ·rintro ⟨k, hk, hx⟩
  split at hx
  ·cases hx
  ·rename_i h; exact ⟨k, hk, h, by simpa using hx⟩
 ·rintro ⟨k, hk, h, rfl⟩
  exact ⟨k, hk, by rw [if_neg h]; simp⟩
def Uq (W T : Int) (cs : List Bool) (ls : List Int) : Nat := PF W T cs.length 0 (B5 cs ls)
def gj (W T : Int) (cs : List Bool) (ls : List Int) : Int := tmI W T (MU cs (XU ls ls.length))
theorem gk {W T : Int} {cs : List Bool} {ls : List Int} (hr : A3 W T cs = true) (hl : ls.length = cs.length) : gj W T cs ls = ((Uq W T cs ls : Nat) : Int) := by
 rw [gj, tmI, if_pos (dm _ hr), NF, Uq]
 congr 1
 apply EM
 intro i _
 have h := aI (XU ls ls.length) cs i (fun x hx => by obtain ⟨k, _, _, rfl⟩ := covL_mem.1 hx; omega)
 unfold F7
 rw [h]
 by_cases hi : i < cs.length
 ·by_cases hz : ati ls i = 0
  ·have : ¬ ((i : Int) ∈ XU ls ls.length) := by
    intro hm
    obtain ⟨k, _, h1, h2⟩ := covL_mem.1 hm
    have : k = i := by omega
    subst this; exact h1 hz
   simp [B5, hz, this]
  ·have : (i : Int) ∈ XU ls ls.length := covL_mem.2 ⟨i, by omega, hz, rfl⟩
   simp [B5, hz, this]
 ·have := aH (cs := cs) i (by omega)
  unfold F7 at this
  simp [B5, this]
theorem XK (W T : Int) (cs : List Bool) (ls : List Int) (hb : cs.length < 2 ^ 40) (hl : ls.length ≤ cs.length) :
  SoundAt Tryz.prog QW [.agg [.v (.int .i64 W), .v (.int .i64 T), .sl 1 1 (AD cs)], .sl 1 1 (AC ls)] (.v (.int .i64 (gj W T cs ls))) [.bot, .bot] := by
 refine AJ (md := md0) (ms := [false, false]) XH (by simp) ?_
 simp [QX]
 refine AH (fun m E H => ∃ k : Nat, m = ls.length - k ∧ k ≤ ls.length ∧
  H = [some (.box [.v (.int .i64 W), .v (.int .i64 T), .sl 1 1 (AD cs)]), some (.arr 1 (AC (XU ls k)))] ∧
  E = [(1, .sl 1 1 (AC ls)), (2, .lp 0 0 0 0), (5, .ls 1 1 0 (XU ls k).length), (6, .v (.int .i64 k))]) ls.length ⟨0, by simp [XU]⟩ ?_
 rintro J hJ m E H ⟨k, rfl, hk', rfl, rfl⟩
 have hcl := UD ls k
 by_cases hk : k < ls.length
 case neg =>
  have : k = ls.length := by omega
  subst this
  simp [E3]
  refine AA (XJ W T cs (XU ls ls.length) hb (by omega) ?_) ?_
  ·intro x hx
   obtain ⟨j, hj, _, rfl⟩ := covL_mem.1 hx
   omega
  simp
  refine AA (Fo W T (MU cs (XU ls ls.length)) (by simpa using hb)) ?_
  have htk : (AD (MU cs (XU ls ls.length))).take cs.length = AD (MU cs (XU ls ls.length)) := List.take_of_length_le (by simp)
  simp [gj, htk]
 have hs := YK ls k
 by_cases hz : ati ls k = 0
 ·rw [if_pos hz, List.append_nil] at hs
  simp [E3, hk, hz]
  exact ⟨by omega, _, by omega, hJ _ _ _ ⟨k + 1, rfl, hk, by rw [hs], by rw [hs]; simp⟩⟩
 ·rw [if_neg hz] at hs
  simp [E3, hk, hz]
  refine ⟨by omega, by omega, _, by omega, hJ _ _ _ ⟨k + 1, rfl, hk, ?_, ?_⟩⟩
  ·rw [hs, Dy]; rfl
  ·rw [hs]; simp
theorem dn {W T : Int} {cs : List Bool} {ls : List Int} {k : Nat} (hr : A3 W T cs = true) (hy : AU W T cs ls = true) (hb : E8 cs ls = k) :
  Uq W T cs ls = (if Ap W T cs ls k 1 = true then Uq W T cs (B4 W T ls k 1) else 0) + (if Ap W T cs ls k 2 = true then Uq W T cs (B4 W T ls k 2) else 0) := by
 rcases EK cs ls with h | ⟨k', hk, he, hc, hz⟩
 ·omega
 have : k' = k := by omega
 subst this
 have hzp := M4 hk hz
 obtain ⟨m, hm⟩ : ∃ m, B9 ls = m + 1 := ⟨B9 ls - 1, by omega⟩
 unfold Uq
 rw [Z9 hr (m + 1) ls (by omega) hy, allT, if_neg (by omega), hb, List.length_append]
 have one : ∀ way : Int, way = 1 ∨ way = 2 → (if Ap W T cs ls k' way = true then allT W T cs m (B4 W T ls k' way) else []).length = if Ap W T cs ls k' way = true then PF W T cs.length 0 (B5 cs (B4 W T ls k' way)) else 0 := by
  intro way hw
  split
  ·rename_i hf
   have := Fj (W := W) (T := T) (way := way) hk hz (by omega) (by omega)
   rw [Z9 hr m _ (by omega) (KW hr hy hf)]
  ·rfl
 rw [one 1 (.inl rfl), one 2 (.inr rfl)]
def XL (n : Nat) (r : AV) (ups : List AV) : Prop := ∃ (ls : List Int) (b : Bool), ls.length ≤ n ∧ r = .tup [.os 1 (AC ls), .v (.bool b)] ∧ ups = [.bot, .bot]
theorem UE (W T : Int) (cs : List Bool) (rank : Int) (hb : cs.length < 2 ^ 40) :
  SoundSet Tryz.prog ND [.agg [.v (.int .i64 W), .v (.int .i64 T), .sl 1 1 (AD cs)], .v (.int .i64 rank)] (XL cs.length) := by
 refine Hb (md := md0) (ms := [false, false]) UC (by simp) ?_
 simp [NE]
 refine AA (An W T cs hb) ?_
 cases hr : A3 W T cs with
 | false => simp [Yq, XL]
 | true =>
 have h36 := AZ hr
 simp
 refine AA (Fo W T cs hb) ?_
 have hcnt : tmI W T cs = ((Uq W T cs (A5 cs) : Nat) : Int) := by
  rw [tmI, if_pos hr, Uq]
  congr 1
  apply EM
  intro i _
  simp [F7, B5, Sz]
 have hle : Uq W T cs (A5 cs) ≤ 2 ^ 36 := Nat.le_trans (T9 _ _ _) (Nat.pow_le_pow_right (by omega) h36)
 rw [hcnt]
 simp
 refine ⟨by omega, ?_⟩
 refine AA (Aq rank 0 (((Uq W T cs (A5 cs) : Nat) : Int) - 1)) ?_
 by_cases hx : 0 ≤ rank ∧ rank ≤ ((Uq W T cs (A5 cs) : Nat) : Int) - 1
 case neg =>
  have hx2 : (decide (0 ≤ rank) && decide (rank ≤ ((Uq W T cs (A5 cs) : Nat) : Int) - 1)) = false := by simp; omega
  simp [hx2, Yq, XL]
 obtain ⟨rk, rfl⟩ : ∃ rk : Nat, rank = rk := ⟨rank.toNat, by omega⟩
 have hx2 : (rk : Int) ≤ ((Uq W T cs (A5 cs) : Nat) : Int) - 1 := hx.2
 simp [hx2]
 refine AA (Ia W T cs hb) ?_
 have hn : (A5 cs).length = cs.length := by simp [A5]
 simp [hr]
 refine AA (KE W T cs (A5 cs) hn hb) ?_
 simp
 refine AH (fun m E H => ∃ (rk : Nat) (now : List Int), m = B9 now ∧ AU W T cs now = true ∧ rk < Uq W T cs now ∧
  H = [some (.box [.v (.int .i64 W), .v (.int .i64 T), .sl 1 1 (AD cs)]), some (.arr 1 (AC now))] ∧
  E = [(1, .v (.int .i64 rk)), (2, .lp 0 0 0 0), (6, .ls 1 1 0 now.length), (7, .v (.int .i64 (E8 cs now)))]) (B9 (A5 cs)) ⟨rk, A5 cs, rfl, M5 W T cs, by omega, rfl, by simp⟩ ?_
 rintro J hJ m E H ⟨rk, now, rfl, hy, hlt, rfl, rfl⟩
 have hnl := Aj hy
 rcases EK cs now with hneg | ⟨k, hk, he, hc, hz⟩
 ·simp [Fn, hneg, Yq, XL]
  exact ⟨now, by omega, rfl⟩
 have hsplit := dn hr hy he
 have hle2 : Uq W T cs now ≤ 2 ^ 36 := Nat.le_trans (T9 _ _ _) (Nat.pow_le_pow_right (by omega) h36)
 have goon : ∀ (way : Int) (rk2 : Nat), way = 1 ∨ way = 2 → Ap W T cs now k way = true → rk2 < Uq W T cs (B4 W T now k way) →
   Cx J (B9 now) [(1, .v (.int .i64 rk2)), (2, .lp 0 0 0 0), (6, .ls 1 1 0 now.length), (7, .v (.int .i64 (E8 cs (B4 W T now k way))))]
    [some (.box [.v (.int .i64 W), .v (.int .i64 T), .sl 1 1 (AD cs)]), some (.arr 1 (AC (B4 W T now k way)))] := by
  intro way rk2 hw hf hlt2
  exact ⟨_, Fj hk hz (by omega) (by omega), hJ _ _ _ ⟨rk2, _, rfl, KW hr hy hf, hlt2, rfl, by simp [AN]⟩⟩
 have first2 := KE W T cs (B4 W T now k 2) (by rw [AN]; exact hnl) hb
 have two (hf2 : Ap W T cs now k 2 = true) := C5 W T cs now k 2 hr hy
 have l2 (hf2 : Ap W T cs now k 2 = true) : Av W T cs now k 2 = B4 W T now k 2 := by simp [Av, hf2]
 have ll : ∀ way : Int, (B4 W T now k way).length = now.length := fun way => AN ..
 have tk : ∀ way : Int, (AC (B4 W T now k way)).take now.length = AC (B4 W T now k way) := fun way => List.take_of_length_le (by simp [ll])
 simp [Fn, he]
 refine AA (C5 W T cs now k 1 hr hy) ?_
 simp
 cases hf1 : Ap W T cs now k 1 with
 | false =>
   have hf2 : Ap W T cs now k 2 = true := by
    cases h : Ap W T cs now k 2 with
    | true => rfl
    | false => simp [hf1, h] at hsplit; omega
   simp [hf1, hf2] at hsplit
   simp
   refine ⟨by omega, ?_⟩
   refine AA (two hf2) ?_
   rw [l2 hf2, hf2]
   simp
   refine AA first2 ?_
   simp [ll, tk]
   exact goon 2 rk (.inr rfl) hf2 (by omega)
 | true =>
   have l1' : Av W T cs now k 1 = B4 W T now k 1 := by simp [Av, hf1]
   have first1 := KE W T cs (B4 W T now k 1) (by rw [AN]; exact hnl) hb
   rw [l1']
   simp
   refine AA (XK W T cs (B4 W T now k 1) hb (by rw [AN]; omega)) ?_
   rw [gk hr (by rw [AN]; exact hnl)]
   by_cases hm : rk < Uq W T cs (B4 W T now k 1)
   ·have hm' : ¬ Uq W T cs (B4 W T now k 1) ≤ rk := by omega
    simp [hm']
    refine AA first1 ?_
    simp [ll, tk]
    exact goon 1 rk (.inl rfl) hf1 hm
   ·have hm' : Uq W T cs (B4 W T now k 1) ≤ rk := by omega
    have hf2 : Ap W T cs now k 2 = true := by
     cases h : Ap W T cs now k 2 with
     | true => rfl
     | false => simp [hf1, h] at hsplit; omega
    simp [hf1, hf2] at hsplit
    simp [hm']
    refine ⟨by omega, ?_⟩
    refine AA (two hf2) ?_
    rw [l2 hf2, hf2]
    simp
    refine AA first2 ?_
    simp [ll, tk]
    have e : (rk : Int) - (Uq W T cs (B4 W T now k 1) : Nat) = ((rk - Uq W T cs (B4 W T now k 1) : Nat) : Int) := by omega
    rw [e]
    exact goon 2 (rk - Uq W T cs (B4 W T now k 1)) (.inr rfl) hf2 (by omega)
@[simp] abbrev L5 : Nat := 254
abbrev DZ : Plan := .al (.o 45 (.app 1 1 true) [.t 39, .t 44]) ( .take (.f 46 2 5) <| .al (.s (.store 1) [.t 46, .t 45]) ( .done))
def BN : ACode := .seq (.seq (.reg [.m 29 7, .f 30 0 5, .l 31 30, .f 32 1 5, .l 33 32, .o 34 (.bin .mul 0) [.t 31, .t 33], .o 35 (.bin .lss 0) [.t 29, .t 34]]) <| .cond (.t 35) ( .skip) ( .exit 0)) <| .seq (.block 1 ( .draw ( .take (.f 38 2 5) <| .take (.m 40 0) <| .take (.m 42 6) <| .alt (.l 39 38) ( .al (.o 41 (.call 54 []) [.t 40, .k 10]) ( .take (.o 43 (.bin .leq 0) [.t 41, .t 42]) <| .al (.o 44 (.bsl 1) [.t 43]) DZ)) <| .al (.o 41 (.call 54 []) [.t 40, .k 10]) ( .take (.o 43 (.bin .leq 0) [.t 41, .t 42]) <| .alt (.l 39 38) ( .al (.o 44 (.bsl 1) [.t 43]) DZ) <| .al (.o 44 (.bsl 1) [.t 43]) ( .al (.l 39 38) DZ))))) <| .reg [.m 36 7, .o 37 (.bin .add 0) [.t 36, .k 1], .m 7 37]
def BO : ACode := .seq (.seq (.reg [.m 53 8, .o 54 (.bin .lss 0) [.t 53, .k 36]]) <| .cond (.t 54) ( .skip) ( .exit 3)) <| .seq (.block 4 ( .reg [.f 57 2 5, .l 58 57, .o 59 (.bsl 1) [.kb true], .o 60 (.app 1 1 true) [.t 58, .t 59], .f 61 2 5, .s (.store 1) [.t 61, .t 60]])) <| .reg [.m 55 8, .o 56 (.bin .add 0) [.t 55, .k 1], .m 8 56]
def L6 : ACode := .seq (.reg [.o 4 (.alloc rz) []]) <| .seq (.reg [.m 9 0, .o 10 (.call 54 []) [.t 9, .k 6], .o 11 (.bin .add 0) [.k 1, .t 10], .m 12 0, .o 13 (.call 54 []) [.t 12, .k 6], .o 14 (.bin .add 0) [.k 1, .t 13], .o 15 (.build rz [(0, 1), (1, 1)]) [.t 11, .t 14], .o 5 (.alloc rz) [], .s (.store 3) [.t 5, .t 15]]) <| .seq (.seq (.reg [.f 16 0 5, .l 17 16, .f 18 1 5, .l 19 18, .o 20 (.bin .mul 0) [.t 17, .t 19], .o 21 (.bin .gtr 0) [.t 20, .k 24]]) <| .cond (.t 21) ( .reg [.f 22 0 5, .l 23 22, .o 24 (.bin .quo 0) [.k 24, .t 23], .f 25 1 5, .s (.store 1) [.t 25, .t 24]]) ( .skip)) <| .seq (.reg [.m 26 0, .o 27 (.call 54 []) [.t 26, .k 8], .o 28 (.bin .add 0) [.k 2, .t 27], .m 6 28]) <| .seq (.seq (.reg [.o 7 .mv [.k 0]]) <| .block 0 ( .loop [] [0, 1, 4, 5, 6, 7, 73] BN)) <| .seq (.seq (.reg [.m 47 0, .m 48 1, .o 49 (.call 45 []) [.t 47, .t 48]]) <| .cond (.t 49) ( .seq (.reg [.m 50 0, .o 51 (.call 54 []) [.t 50, .k 3]]) <| .block 2 ( .seq (.reg [.o 63 (.bin .eql 0) [.t 51, .k 0], .m 62 63]) <| .cond (.t 62) ( .reg [.f 64 2 5, .l 65 64, .o 66 (.bsl 1) [.kb true], .o 67 (.app 1 1 true) [.t 65, .t 66], .f 68 2 5, .s (.store 1) [.t 68, .t 67]]) ( .seq (.reg [.o 70 (.bin .eql 0) [.t 51, .k 1], .m 69 70]) <| .cond (.t 69) ( .seq (.reg [.o 71 (.build rz []) [], .s (.store 3) [.t 4, .t 71]]) <| .ret) ( .seq (.reg [.o 52 (.build rz [(0, 1), (1, 1)]) [.k 6, .k 6], .s (.store 3) [.t 5, .t 52]]) <| .seq (.reg [.o 8 .mv [.k 0]]) <| .block 3 ( .loop [] [4, 5, 8, 73] BO))))) ( .skip)) <| .seq (.reg [.la 72 3 5, .s (.store 3) [.t 4, .t 72]]) <| .ret
theorem SY : cFn Tryz.prog L5 73 [.c 4 true 3] L6 := ⟨Tryz.f254, _, Tryz.func254, rfl, by kernel_rfl, by kernel_rfl, by kernel_rfl, by kernel_rfl⟩
@[simp] abbrev NG : Nat := 255
abbrev D9 : Plan := .al (.o 40 (.call 140 []) [.t 32, .t 33, .t 34, .t 39]) ( .take (.m 31 40) <| .take (.e 41 0 31) <| .take (.e 42 1 31) <| .take (.m 8 41) <| .take (.m 9 42) <| .done)
abbrev HI : Plan := .take (.o 38 (.iadr 1) [.t 35, .t 37]) <| .al (.l 39 38) D9
abbrev HJ : Plan := .take (.o 38 (.iadr 1) [.t 35, .t 37]) <| .alt (.la 32 3 5) ( .al (.l 39 38) D9) <| .al (.l 39 38) ( .al (.la 32 3 5) D9)
abbrev HK : Plan := .al (.o 35 (.bsl 1) [.k 1, .k 2, .k 3, .k 4]) HI
abbrev HL : Plan := .al (.o 37 (.call 54 []) [.t 36, .k 4]) HI
def Fp : ACode := .seq (.seq (.reg [.m 25 7, .m 26 6, .n 27 26, .o 28 (.bin .lss 0) [.t 25, .t 27]]) <| .cond (.t 28) ( .skip) ( .exit 0)) <| .seq (.block 1 ( .seq (.draw ( .take (.m 33 6) <| .take (.m 34 7) <| .take (.m 36 0) <| .alt (.la 32 3 5) ( .alt (.o 35 (.bsl 1) [.k 1, .k 2, .k 3, .k 4]) HL <| .al (.o 37 (.call 54 []) [.t 36, .k 4]) HK) <| .alt (.o 35 (.bsl 1) [.k 1, .k 2, .k 3, .k 4]) ( .alt (.la 32 3 5) HL <| .al (.o 37 (.call 54 []) [.t 36, .k 4]) HJ) <| .al (.o 37 (.call 54 []) [.t 36, .k 4]) ( .alt (.la 32 3 5) HK <| .al (.o 35 (.bsl 1) [.k 1, .k 2, .k 3, .k 4]) HJ))) <| .seq (.reg [.m 43 9]) <| .cond (.t 43) ( .reg [.m 44 8, .m 6 44]) ( .skip))) <| .reg [.m 29 7, .o 30 (.bin .add 0) [.t 29, .k 1], .m 7 30]
def Fq : ACode := .seq (.seq (.reg [.m 51 11, .o 52 (.bin .leq 0) [.t 51, .k 2]]) <| .cond (.t 52) ( .skip) ( .exit 4)) <| .seq (.block 5 ( .seq (.reg [.la 56 3 5, .m 57 6, .m 58 10, .m 59 11, .o 60 (.call 140 []) [.t 56, .t 57, .t 58, .t 59], .m 55 60, .e 61 0 55, .e 62 1 55, .m 12 61, .m 13 62]) <| .seq (.reg [.m 63 13]) <| .cond (.t 63) ( .reg [.m 64 12, .m 6 64]) ( .skip))) <| .reg [.m 53 11, .o 54 (.bin .add 0) [.t 53, .k 1], .m 11 54]
def Fr : ACode := .seq (.seq (.reg [.m 45 10, .m 46 6, .n 47 46, .o 48 (.bin .lss 0) [.t 45, .t 47]]) <| .cond (.t 48) ( .skip) ( .exit 2)) <| .seq (.block 3 ( .seq (.reg [.o 11 .mv [.k 1]]) <| .block 4 ( .loop [(6, 1)] [4, 5, 6, 10, 11, 87] Fq))) <| .reg [.m 49 10, .o 50 (.bin .add 0) [.t 49, .k 1], .m 10 50]
abbrev EA : Plan := .al (.o 84 (.app 1 1 true) [.t 77, .t 83]) ( .take (.f 85 2 14) <| .al (.s (.store 1) [.t 85, .t 84]) ( .done))
def Dl : ACode := .seq (.seq (.reg [.m 70 15, .m 71 6, .n 72 71, .o 73 (.bin .lss 0) [.t 70, .t 72]]) <| .cond (.t 73) ( .skip) ( .exit 6)) <| .seq (.block 7 ( .draw ( .take (.f 76 2 14) <| .take (.m 78 6) <| .take (.m 79 15) <| .take (.o 80 (.iadr 1) [.t 78, .t 79]) <| .alt (.l 77 76) ( .al (.l 81 80) ( .take (.o 82 (.bin .neq 0) [.t 81, .k 0]) <| .al (.o 83 (.bsl 1) [.t 82]) EA)) <| .al (.l 81 80) ( .take (.o 82 (.bin .neq 0) [.t 81, .k 0]) <| .alt (.l 77 76) ( .al (.o 83 (.bsl 1) [.t 82]) EA) <| .al (.o 83 (.bsl 1) [.t 82]) ( .al (.l 77 76) EA))))) <| .reg [.m 74 15, .o 75 (.bin .add 0) [.t 74, .k 1], .m 15 75]
def NH : ACode := .seq (.reg [.o 4 (.alloc rz) []]) <| .seq (.reg [.m 16 0, .m 17 1, .o 18 (.call 254 []) [.t 16, .t 17], .o 5 (.alloc rz) [], .s (.store 3) [.t 5, .t 18]]) <| .seq (.seq (.reg [.la 19 3 5, .o 20 (.call 168 []) [.t 19], .o 21 (.un .not) [.t 20]]) <| .cond (.t 21) ( .seq (.reg [.la 22 3 5, .s (.store 3) [.t 4, .t 22]]) <| .ret) ( .skip)) <| .seq (.reg [.la 23 3 5, .o 24 (.call 146 []) [.t 23], .m 6 24]) <| .seq (.seq (.reg [.o 7 .mv [.k 0]]) <| .block 0 ( .loop [(6, 1)] [0, 4, 5, 6, 7, 87] Fp)) <| .seq (.seq (.reg [.o 10 .mv [.k 0]]) <| .block 2 ( .loop [(6, 1)] [4, 5, 6, 10, 87] Fr)) <| .seq (.reg [.f 65 0 5, .l 66 65, .f 67 1 5, .l 68 67, .o 69 (.build rz [(0, 1), (1, 1)]) [.t 66, .t 68], .o 14 (.alloc rz) [], .s (.store 3) [.t 14, .t 69]]) <| .seq (.seq (.reg [.o 15 .mv [.k 0]]) <| .block 6 ( .loop [(6, 1)] [4, 6, 14, 15, 87] Dl)) <| .seq (.reg [.la 86 3 14, .s (.store 3) [.t 4, .t 86]]) <| .ret
theorem UF : cFn Tryz.prog NG 87 [.c 4 true 3] NH := ⟨Tryz.f255, _, Tryz.func255, rfl, by kernel_rfl, by kernel_rfl, by kernel_rfl, by kernel_rfl⟩
@[simp] abbrev ON : Nat := 220
abbrev B6 : Plan := .al (.o 19 (.call 221 []) [.t 13, .t 18]) ( .al (.s (.store 3) [.t 4, .t 19]) ( .done))
abbrev EN : Plan := .take (.o 17 (.iadr 1) [.t 14, .t 16]) <| .alt (.l 13 12) ( .al (.l 18 17) B6) <| .al (.l 18 17) ( .al (.l 13 12) B6)
abbrev B7 : Plan := .take (.o 17 (.iadr 1) [.t 14, .t 16]) <| .al (.l 18 17) B6
abbrev Kt : Plan := .take (.o 17 (.iadr 1) [.t 14, .t 16]) <| .alt (.o 9 (.bsl 1) [.k 2, .k 3, .k 4, .k 4, .k 6]) ( .take (.o 12 (.iadr 1) [.t 9, .t 11]) <| .alt (.l 13 12) ( .al (.l 18 17) B6) <| .al (.l 18 17) ( .al (.l 13 12) B6)) <| .al (.l 18 17) ( .al (.o 9 (.bsl 1) [.k 2, .k 3, .k 4, .k 4, .k 6]) ( .take (.o 12 (.iadr 1) [.t 9, .t 11]) <| .al (.l 13 12) B6))
abbrev Ku : Plan := .take (.o 12 (.iadr 1) [.t 9, .t 11]) <| .alt (.l 13 12) ( .alt (.o 14 (.bsl 1) [.k 2, .k 3, .k 4]) ( .al (.o 16 (.call 54 []) [.t 15, .k 3]) B7) <| .al (.o 16 (.call 54 []) [.t 15, .k 3]) ( .al (.o 14 (.bsl 1) [.k 2, .k 3, .k 4]) B7)) <| .alt (.o 14 (.bsl 1) [.k 2, .k 3, .k 4]) ( .alt (.l 13 12) ( .al (.o 16 (.call 54 []) [.t 15, .k 3]) B7) <| .al (.o 16 (.call 54 []) [.t 15, .k 3]) EN) <| .al (.o 16 (.call 54 []) [.t 15, .k 3]) ( .alt (.l 13 12) ( .al (.o 14 (.bsl 1) [.k 2, .k 3, .k 4]) B7) <| .al (.o 14 (.bsl 1) [.k 2, .k 3, .k 4]) EN)
abbrev Gh : Plan := .take (.o 12 (.iadr 1) [.t 9, .t 11]) <| .alt (.l 13 12) ( .al (.o 16 (.call 54 []) [.t 15, .k 3]) B7) <| .al (.o 16 (.call 54 []) [.t 15, .k 3]) EN
abbrev Kv : Plan := .alt (.o 9 (.bsl 1) [.k 2, .k 3, .k 4, .k 4, .k 6]) Gh <| .al (.o 16 (.call 54 []) [.t 15, .k 3]) Kt
def OO : ACode := .seq (.reg [.o 4 (.alloc rz) []]) <| .seq (.seq (.reg [.m 5 0, .o 6 (.call 54 []) [.t 5, .k 4]]) <| .block 0 ( .seq (.reg [.o 8 (.bin .eql 0) [.t 6, .k 0], .m 7 8]) <| .cond (.t 7) ( .seq (.draw ( .take (.m 10 0) <| .take (.m 15 0) <| .alt (.o 9 (.bsl 1) [.k 2, .k 3, .k 4, .k 4, .k 6]) ( .alt (.o 11 (.call 54 []) [.t 10, .k 5]) Ku <| .al (.o 14 (.bsl 1) [.k 2, .k 3, .k 4]) ( .al (.o 11 (.call 54 []) [.t 10, .k 5]) Gh)) <| .alt (.o 11 (.call 54 []) [.t 10, .k 5]) ( .alt (.o 9 (.bsl 1) [.k 2, .k 3, .k 4, .k 4, .k 6]) Ku <| .alt (.o 14 (.bsl 1) [.k 2, .k 3, .k 4]) Kv <| .al (.o 16 (.call 54 []) [.t 15, .k 3]) ( .alt (.o 9 (.bsl 1) [.k 2, .k 3, .k 4, .k 4, .k 6]) ( .take (.o 12 (.iadr 1) [.t 9, .t 11]) <| .alt (.l 13 12) ( .al (.o 14 (.bsl 1) [.k 2, .k 3, .k 4]) B7) <| .al (.o 14 (.bsl 1) [.k 2, .k 3, .k 4]) EN) <| .al (.o 14 (.bsl 1) [.k 2, .k 3, .k 4]) Kt)) <| .al (.o 14 (.bsl 1) [.k 2, .k 3, .k 4]) ( .alt (.o 9 (.bsl 1) [.k 2, .k 3, .k 4, .k 4, .k 6]) ( .al (.o 11 (.call 54 []) [.t 10, .k 5]) Gh) <| .al (.o 11 (.call 54 []) [.t 10, .k 5]) Kv))) <| .ret) ( .seq (.reg [.o 21 (.bin .eql 0) [.t 6, .k 1], .m 20 21]) <| .cond (.t 20) ( .seq (.reg [.m 22 0, .m 23 1, .o 24 (.call 254 []) [.t 22, .t 23], .s (.store 3) [.t 4, .t 24]]) <| .ret) ( .skip)))) <| .seq (.reg [.m 25 0, .m 26 1, .o 27 (.call 255 []) [.t 25, .t 26], .s (.store 3) [.t 4, .t 27]]) <| .ret
theorem VF : cFn Tryz.prog ON 28 [.c 4 true 3] OO := ⟨Tryz.f220, _, Tryz.func220, rfl, by kernel_rfl, by kernel_rfl, by kernel_rfl, by kernel_rfl⟩
@[simp] abbrev NI : Nat := 163
def Fs : ACode := .seq (.reg [.la 28 3 5, .s (.store 3) [.t 4, .t 28]]) <| .ret
abbrev Be : Plan := .al (.o 27 (.call 221 []) [.t 21, .t 26]) ( .al (.s (.store 3) [.t 4, .t 27]) ( .done))
abbrev Dm : Plan := .take (.o 25 (.iadr 1) [.t 22, .t 24]) <| .alt (.l 21 20) ( .al (.l 26 25) Be) <| .al (.l 26 25) ( .al (.l 21 20) Be)
abbrev Bf : Plan := .take (.o 25 (.iadr 1) [.t 22, .t 24]) <| .al (.l 26 25) Be
abbrev Jm : Plan := .take (.o 25 (.iadr 1) [.t 22, .t 24]) <| .alt (.o 17 (.bsl 1) [.k 2, .k 4, .k 4, .k 5]) ( .take (.o 20 (.iadr 1) [.t 17, .t 19]) <| .alt (.l 21 20) ( .al (.l 26 25) Be) <| .al (.l 26 25) ( .al (.l 21 20) Be)) <| .al (.l 26 25) ( .al (.o 17 (.bsl 1) [.k 2, .k 4, .k 4, .k 5]) ( .take (.o 20 (.iadr 1) [.t 17, .t 19]) <| .al (.l 21 20) Be))
abbrev Jn : Plan := .take (.o 20 (.iadr 1) [.t 17, .t 19]) <| .alt (.l 21 20) ( .alt (.o 22 (.bsl 1) [.k 2, .k 3]) ( .al (.o 24 (.call 54 []) [.t 23, .k 2]) Bf) <| .al (.o 24 (.call 54 []) [.t 23, .k 2]) ( .al (.o 22 (.bsl 1) [.k 2, .k 3]) Bf)) <| .alt (.o 22 (.bsl 1) [.k 2, .k 3]) ( .alt (.l 21 20) ( .al (.o 24 (.call 54 []) [.t 23, .k 2]) Bf) <| .al (.o 24 (.call 54 []) [.t 23, .k 2]) Dm) <| .al (.o 24 (.call 54 []) [.t 23, .k 2]) ( .alt (.l 21 20) ( .al (.o 22 (.bsl 1) [.k 2, .k 3]) Bf) <| .al (.o 22 (.bsl 1) [.k 2, .k 3]) Dm)
abbrev Ft : Plan := .take (.o 20 (.iadr 1) [.t 17, .t 19]) <| .alt (.l 21 20) ( .al (.o 24 (.call 54 []) [.t 23, .k 2]) Bf) <| .al (.o 24 (.call 54 []) [.t 23, .k 2]) Dm
abbrev Jo : Plan := .alt (.o 17 (.bsl 1) [.k 2, .k 4, .k 4, .k 5]) Ft <| .al (.o 24 (.call 54 []) [.t 23, .k 2]) Jm
def NJ : ACode := .seq (.reg [.o 4 (.alloc rz) []]) <| .seq (.reg [.m 6 0, .m 7 1, .o 8 (.call 220 []) [.t 6, .t 7], .o 5 (.alloc rz) [], .s (.store 3) [.t 5, .t 8]]) <| .seq (.seq (.reg [.la 9 3 5, .o 10 (.call 147 []) [.t 9], .o 11 (.bin .gtr 0) [.t 10, .k 16], .m 12 11, .mg 13 0 12 true, .g 14 (.call 54 []) [.t 13, .k 12] 12 true, .g 15 (.bin .gtr 0) [.t 14, .k 0] 12 true, .o 16 .pick [.t 12, .t 15, .kb false]]) <| .cond (.t 16) ( .seq (.draw ( .take (.m 18 0) <| .take (.m 23 0) <| .alt (.o 17 (.bsl 1) [.k 2, .k 4, .k 4, .k 5]) ( .alt (.o 19 (.call 54 []) [.t 18, .k 4]) Jn <| .al (.o 22 (.bsl 1) [.k 2, .k 3]) ( .al (.o 19 (.call 54 []) [.t 18, .k 4]) Ft)) <| .alt (.o 19 (.call 54 []) [.t 18, .k 4]) ( .alt (.o 17 (.bsl 1) [.k 2, .k 4, .k 4, .k 5]) Jn <| .alt (.o 22 (.bsl 1) [.k 2, .k 3]) Jo <| .al (.o 24 (.call 54 []) [.t 23, .k 2]) ( .alt (.o 17 (.bsl 1) [.k 2, .k 4, .k 4, .k 5]) ( .take (.o 20 (.iadr 1) [.t 17, .t 19]) <| .alt (.l 21 20) ( .al (.o 22 (.bsl 1) [.k 2, .k 3]) Bf) <| .al (.o 22 (.bsl 1) [.k 2, .k 3]) Dm) <| .al (.o 22 (.bsl 1) [.k 2, .k 3]) Jm)) <| .al (.o 22 (.bsl 1) [.k 2, .k 3]) ( .alt (.o 17 (.bsl 1) [.k 2, .k 4, .k 4, .k 5]) ( .al (.o 19 (.call 54 []) [.t 18, .k 4]) Ft) <| .al (.o 19 (.call 54 []) [.t 18, .k 4]) Jo))) <| .ret) ( .skip)) <| .gc [] [4, 5, 29] Fs
theorem UG : cFn Tryz.prog NI 29 [.c 4 true 3] NJ := ⟨Tryz.f163, _, Tryz.func163, rfl, by kernel_rfl, by kernel_rfl, by kernel_rfl, by kernel_rfl⟩
@[simp] abbrev L7 : Nat := 118
def BP : ACode := .seq (.seq (.reg [.m 43 11, .f 44 2 6, .l 45 44, .n 46 45, .o 47 (.bin .lss 0) [.t 43, .t 46]]) <| .cond (.t 47) ( .skip) ( .exit 0)) <| .seq (.block 1 ( .seq (.reg [.f 50 2 6, .l 51 50, .m 52 11, .o 53 (.iadr 1) [.t 51, .t 52], .l 54 53]) <| .cond (.t 54) ( .reg [.m 55 9, .m 56 0, .m 57 10, .o 58 (.mnx true) [.t 57, .k 7], .o 59 (.call 54 []) [.t 56, .t 58], .o 60 (.bsl 1) [.t 59], .o 61 (.app 1 8 true) [.t 55, .t 60], .m 9 61]) ( .reg [.m 62 9, .o 63 (.bsl 1) [.k (-1)], .o 64 (.app 1 8 true) [.t 62, .t 63], .m 9 64]))) <| .reg [.m 48 11, .o 49 (.bin .add 0) [.t 48, .k 1], .m 11 49]
def FB : ACode := .seq (.seq (.reg [.m 32 8, .o 33 (.un .not) [.t 32], .m 34 33, .mg 35 0 34 false, .g 36 (.call 54 []) [.t 35, .k 3] 34 false, .g 37 (.bin .eql 0) [.t 36, .k 0] 34 false, .o 38 .pick [.t 34, .kb true, .t 37]]) <| .cond (.t 38) ( .seq (.reg [.o 39 (.bsl 1) [], .m 9 39]) <| .seq (.reg [.m 40 0, .o 41 (.call 54 []) [.t 40, .k 6], .o 42 (.bin .add 0) [.k 2, .t 41], .m 10 42]) <| .seq (.reg [.o 11 .mv [.k 0]]) <| .block 0 ( .loop [(9, 1)] [0, 1, 4, 6, 9, 10, 11, 87] BP)) ( .skip)) <| .seq (.seq (.reg [.m 65 0, .m 66 1, .o 67 (.bin .mul 0) [.k 2, .t 66], .o 68 (.call 45 []) [.t 65, .t 67], .m 69 68, .mg 70 9 69 true, .g 71 (.len false) [.t 70] 69 true, .g 72 (.bin .gtr 0) [.t 71, .k 0] 69 true, .o 73 .pick [.t 69, .t 72, .kb false]]) <| .cond (.t 73) ( .reg [.m 74 9, .m 75 0, .m 76 9, .n 77 76, .o 78 (.call 54 []) [.t 75, .t 77], .o 79 (.bsl 1) [.k (-1), .k 7, .k 0], .m 80 0, .o 81 (.call 54 []) [.t 80, .k 3], .o 82 (.iadr 1) [.t 79, .t 81], .l 83 82, .o 84 (.iadr 1) [.t 74, .t 78], .s (.store 1) [.t 84, .t 83]]) ( .skip)) <| .seq (.reg [.la 85 3 6, .m 86 9, .s (.store 3) [.t 4, .t 85], .m 5 86]) <| .ret
abbrev GN : Plan := .al (.o 31 (.call 166 []) [.t 27, .t 28, .t 30]) ( .take (.m 9 31) <| .done)
def FC : ACode := .seq (.draw ( .take (.m 28 7) <| .take (.m 29 0) <| .alt (.la 27 3 6) ( .al (.o 30 (.call 54 []) [.t 29, .k 28]) GN) <| .al (.o 30 (.call 54 []) [.t 29, .k 28]) ( .al (.la 27 3 6) GN))) <| .gc [] [0, 1, 4, 6, 8, 9, 87] FB
abbrev DD : Plan := .al (.o 21 (.call 165 []) [.t 20]) ( .take (.o 22 (.mnx false) [.t 21, .k 1]) <| .take (.o 23 (.bin .rem 0) [.t 19, .t 22]) <| .al (.o 24 (.call 164 []) [.t 17, .t 23]) ( .take (.m 16 24) <| .take (.e 25 0 16) <| .take (.e 26 1 16) <| .take (.m 7 25) <| .take (.m 8 26) <| .done))
abbrev Ik : Plan := .alt (.la 17 3 6) DD <| .al (.o 21 (.call 165 []) [.t 20]) ( .take (.o 22 (.mnx false) [.t 21, .k 1]) <| .take (.o 23 (.bin .rem 0) [.t 19, .t 22]) <| .al (.la 17 3 6) ( .al (.o 24 (.call 164 []) [.t 17, .t 23]) ( .take (.m 16 24) <| .take (.e 25 0 16) <| .take (.e 26 1 16) <| .take (.m 7 25) <| .take (.m 8 26) <| .done)))
abbrev Il : Plan := .al (.o 19 (.call 54 []) [.t 18, .k 256]) DD
def L8 : ACode := .seq (.reg [.o 4 (.alloc rz) [], .o 5 .mv [.c (.os 1 [])]]) <| .seq (.reg [.m 12 0, .m 13 1, .o 14 (.bin .mul 0) [.k 2, .t 13], .o 15 (.call 163 []) [.t 12, .t 14], .o 6 (.alloc rz) [], .s (.store 3) [.t 6, .t 15]]) <| .seq (.draw ( .take (.m 18 0) <| .alt (.la 17 3 6) ( .alt (.o 19 (.call 54 []) [.t 18, .k 256]) ( .al (.la 20 3 6) DD) <| .al (.la 20 3 6) Il) <| .alt (.o 19 (.call 54 []) [.t 18, .k 256]) ( .alt (.la 17 3 6) ( .al (.la 20 3 6) DD) <| .al (.la 20 3 6) Ik) <| .al (.la 20 3 6) ( .alt (.la 17 3 6) Il <| .al (.o 19 (.call 54 []) [.t 18, .k 256]) Ik))) <| .gc [] [0, 1, 4, 6, 7, 8, 87] FC
theorem SZ : cFn Tryz.prog L7 87 [.c 4 true 3, .t 5] L8 := ⟨Tryz.f118, _, Tryz.func118, rfl, by kernel_rfl, by kernel_rfl, by kernel_rfl, by kernel_rfl⟩
@[simp] def md5 (f : Nat) : List Bool := if f = 54 ∨ f = 45 ∨ f = 254 ∨ f = 255 ∨ f = 220 ∨ f = 999999 ∨ f = 163 ∨ f = 118 then [true, false] else if f = 999999 ∨ f = 999999 ∨ f = 43 ∨ f = 999999 ∨ f = 999999 ∨ f = 999999 ∨ f = 999999 ∨ f = 999999 ∨ f = 999999 ∨ f = 999999 ∨ f = 999999 ∨ f = 999999 ∨ f = 999999 ∨ f = 999999 then [true] else if f = 999999 then [false, true] else md0 f
def rdC (bs : List Int) (p : Nat) : List AV := [.sl 0 1 (u8s bs), .v (.int .i64 p)]
def rdA (bs : List Int) (p : Nat) : AV := .op (rdC bs p)
attribute [simp] bp rdA rdC
theorem AE {P : Program} {K : ES → AM → Prop} {E : ES} {H : AM} {f : Nat} {ms : List Bool} {avs : List AV} {dst : Option Nat} {ts : List AV} {post : AV → List AV → Prop} (hs : SoundSet P f ts post) (ks : List Nat)
  (h1 : Us H avs ms = some ks) (h2 : ks.Nodup) (h3 : KU H (AL ks H) ks.isEmpty avs ms = some ts) (h4 : ∀ r ups, post r ups → ∃ p, On avs ms ups (Gw r H.length).2.2 = some p ∧
   K (EG (if ks.isEmpty then E else Bm E) dst (Gw r H.length).1) (Bk ((Gw r H.length).2.1 ++ p.1) (Q2 (p.2 - H.length) (AL ks (if ks.isEmpty then H else A8 H))))) : FV P f ms avs E H dst K :=
 gC hs ⟨ks, h1, h2, h3, h4⟩
def RP (bs : List Int) (n : Int) (p : Nat) (r : AV) (ups : List AV) : Prop := ∃ x : Int, 0 ≤ x ∧ (x < n ∨ x = 0) ∧ r = .v (.int .i64 x) ∧ ups = [rdA bs (p + 1), .bot]
theorem AB (bs : List Int) (p : Nat) (n : Int) (hb : bs.length ≤ 2000) (hB : Byt bs) (hp : p < 2 ^ 40) :
  SoundSet Tryz.prog Cv [rdA bs p, .v (.int .i64 n)] (RP bs n p) := by
 refine dA (md := md5) (ms := [true, false]) RO (by simp) (F := Yq [.t 4] 99 2 [true, false] (RP bs n p)) (fun _ _ _ h => h) ?_
 have p1 : ((p : Int) + 1 - 1) = p := by omega
 have fin : ∀ x : Int, 0 ≤ x → (x < n ∨ x = 0) → ∀ E : ES, get E 4 = .v (.int .i64 x) → get E 99 = .lp 0 0 0 0 → get E 100 = .v (.int .i64 n) →
   Yq [RV.t 4] 99 2 [true, false] (RP bs n p) AExit.ret E [some (Row.box [AV.sl 0 1 (u8s bs), AV.v (Value.int IntKind.i64 ((p : Int) + 1))])] := by
  intro x h0 h1 E e4 e99 e100
  refine ⟨.v (.int .i64 x), [rdA bs (p + 1), .bot], ⟨x, h0, h1, rfl, rfl⟩, ?_⟩
  simp [e4, e99, e100, rdA, rdC]
 by_cases hn : n < 1
 ·simp [CB, rdA, rdC, hn]
  exact ⟨by omega, fin 0 (by omega) (.inr rfl) _ (by simp) (by simp) (by simp)⟩
 by_cases hz : bs = []
 ·subst hz
  simp [CB, rdA, rdC, hn]
  exact ⟨by omega, fin 0 (by omega) (.inr rfl) _ (by simp) (by simp) (by simp)⟩
 have hz2 : ¬ (bs.length : Int) = 0 := by
  intro h; exact hz (List.eq_nil_of_length_eq_zero (by omega))
 by_cases hl : p < bs.length
 ·have hb1 := cp hB p
  simp [CB, rdA, rdC, hn, hz, hl, hz2, p1]
  refine ⟨by omega, by omega, by omega, by omega, fin (ati bs p % n) (Int.emod_nonneg _ (by omega)) (.inl (Int.emod_lt_of_pos _ (by omega))) _ (by simp) (by simp) (by simp)⟩
 have m1 := Int.emod_nonneg (p : Int) hz2
 have m2 := Int.emod_lt_of_pos (p : Int) (show 0 < (bs.length : Int) by omega)
 have m3 := Int.emod_nonneg ((p : Int) * 7 + 3) hz2
 have m4 := Int.emod_lt_of_pos ((p : Int) * 7 + 3) (show 0 < (bs.length : Int) by omega)
 have m5 := Int.ediv_nonneg (show 0 ≤ (p : Int) by omega) (show 0 ≤ (bs.length : Int) by omega)
 have m6 := Int.ediv_le_self (bs.length : Int) (show 0 ≤ (p : Int) by omega)
 have b1 := cp hB ((p : Int) % bs.length)
 have b2 := cp hB (((p : Int) * 7 + 3) % bs.length)
 simp [CB, rdA, rdC, hn, hz, hl, hz2, p1]
 generalize ati bs ((p : Int) % bs.length) = A at *
 generalize ati bs (((p : Int) * 7 + 3) % bs.length) = B at *
 generalize (p : Int) / bs.length = D at *
 generalize hX : A * 131 + B * 1117 + (p : Int) * 29 + D * 53 = X at *
 (repeat' first | omega | apply And.intro)
 have hx0 : 0 ≤ ((X.toNat ^^^ (X / 64).toNat : Nat) : Int) := by omega
 exact fin (((X.toNat ^^^ (X / 64).toNat : Nat) : Int) % n) (Int.emod_nonneg _ (by omega)) (.inl (Int.emod_lt_of_pos _ (by omega))) _ (by simp) (by simp) (by simp)
def nT (bs : List Int) (p : Nat) (r : AV) (ups : List AV) : Prop := ∃ (b : Bool) (q : Nat), r = .v (.bool b) ∧ q ≤ p + 1 ∧ ups = [rdA bs q, .bot]
theorem CF (bs : List Int) (p : Nat) (n : Int) (hb : bs.length ≤ 2000) (hB : Byt bs) (hp : p < 2 ^ 40) (hn : n < 2 ^ 40) :
  SoundSet Tryz.prog L0 [rdA bs p, .v (.int .i64 n)] (nT bs p) := by
 refine Hb (md := md5) (ms := [true, false]) ST (by simp) ?_
 by_cases h : 0 < n
 ·simp [HU, h]
  refine AE (AB bs p n hb hB hp) [0] (by simp) (by simp) (by simp) ?_
  rintro _ _ ⟨x, h0, h1, rfl, rfl⟩
  simp
  refine ⟨by omega, ?_⟩
  refine ⟨.v (.bool (x == n - 1)), [rdA bs (p + 1), .bot], ⟨_, p + 1, rfl, Nat.le_refl _, rfl⟩, ?_⟩
  simp
 ·simp [HU, h]
  refine ⟨.v (.bool false), [rdA bs p, .bot], ⟨_, p, rfl, by omega, rfl⟩, ?_⟩
  simp
theorem OP (bs : List Int) (hb : bs.length ≤ 2 ^ 60) :
  SoundAt Tryz.prog OL [.sl 0 1 (u8s bs)] (rdA (bs.take 2000) 0) [.bot] := by
 refine j7 (md := md5) (ms := [false]) VC (by simp) ?_
 by_cases h : 2000 < bs.length
 ·have h' : (2000 : Int) < bs.length := by omega
  have h2 : (2000 : Int) ≤ bs.length := by omega
  simp [KG, h', h2, Zz]
  omega
 ·have h' : ¬ (2000 : Int) < bs.length := by omega
  have e : bs.take 2000 = bs := List.take_of_length_le (by omega)
  simp [KG, h', e]
def Kw (W T : Int) (cs : List Bool) : AV := .agg [.v (.int .i64 W), .v (.int .i64 T), .os 1 (AD cs)]
def OQ (bs : List Int) (p d : Nat) (r : AV) (ups : List AV) : Prop := ∃ (W T : Int) (cs : List Bool) (q : Nat), r = Kw W T cs ∧ cs.length ≤ 37 ∧ 0 ≤ W ∧ W ≤ 6 ∧ 0 ≤ T ∧ T ≤ 24 ∧ q ≤ p + d ∧ ups = [rdA bs q, .bot]
def N0 (W T : Int) (id : Nat) (cs : List Bool) : List (Option Row) := if cs = [] then [some (.box [.v (.int .i64 W), .v (.int .i64 T), .os 1 []])] else [some (.box [.v (.int .i64 W), .v (.int .i64 T), .ls 1 id 0 cs.length]), some (.arr 1 (AD cs))]
def Jp : ACode := .seq (.seq (.reg [.o 7 .mv [.k 0]]) <| .block 0 ( .loop [] [0, 1, 4, 5, 6, 7, 73] BN)) <| .seq (.seq (.reg [.m 47 0, .m 48 1, .o 49 (.call 45 []) [.t 47, .t 48]]) <| .cond (.t 49) ( .seq (.reg [.m 50 0, .o 51 (.call 54 []) [.t 50, .k 3]]) <| .block 2 ( .seq (.reg [.o 63 (.bin .eql 0) [.t 51, .k 0], .m 62 63]) <| .cond (.t 62) ( .reg [.f 64 2 5, .l 65 64, .o 66 (.bsl 1) [.kb true], .o 67 (.app 1 1 true) [.t 65, .t 66], .f 68 2 5, .s (.store 1) [.t 68, .t 67]]) ( .seq (.reg [.o 70 (.bin .eql 0) [.t 51, .k 1], .m 69 70]) <| .cond (.t 69) ( .seq (.reg [.o 71 (.build rz []) [], .s (.store 3) [.t 4, .t 71]]) <| .ret) ( .seq (.reg [.o 52 (.build rz [(0, 1), (1, 1)]) [.k 6, .k 6], .s (.store 3) [.t 5, .t 52]]) <| .seq (.reg [.o 8 .mv [.k 0]]) <| .block 3 ( .loop [] [4, 5, 8, 73] BO))))) ( .skip)) <| .seq (.reg [.la 72 3 5, .s (.store 3) [.t 4, .t 72]]) <| .ret
theorem aJ (bs : List Int) (p q : Nat) (hq : q ≤ p + 100) : CH [] [4, 5, 8, 73] (awp Tryz.prog md5 BO)
  (Me 3 (Me 2 (WS (awp Tryz.prog md5 (.seq (.reg [.la 72 3 5, .s (.store 3) [.t 4, .t 72]]) .ret) (Yq [RV.c 4 true 3] 73 2 [true, false] (OQ bs p 100))) (Yq [RV.c 4 true 3] 73 2 [true, false] (OQ bs p 100)))))
  [(4, .lp 0 0 0 0), (5, .lp 0 1 0 0), (8, .v (.int .i64 0)), (73, .lp 0 2 0 0)]
  [some (.box [.v (.int .i64 0), .v (.int .i64 0), .os 1 []]), some (.box [.v (.int .i64 6), .v (.int .i64 6), .os 1 []]), some (.box [.sl 0 1 (u8s bs), .v (.int .i64 (q : Int))])] := by
 refine AH (fun m E H => ∃ i : Nat, m = 36 - i ∧ i ≤ 36 ∧ E = [(4, .lp 0 0 0 0), (5, .lp 0 1 0 0), (8, .v (.int .i64 i)), (73, .lp 0 2 0 0)] ∧
  H = if i = 0 then [some (.box [.v (.int .i64 0), .v (.int .i64 0), .os 1 []]), some (.box [.v (.int .i64 6), .v (.int .i64 6), .os 1 []]), some (.box [.sl 0 1 (u8s bs), .v (.int .i64 (q : Int))])]
    else [some (.box [.v (.int .i64 0), .v (.int .i64 0), .os 1 []]), some (.box [.v (.int .i64 6), .v (.int .i64 6), .ls 1 3 0 i]), some (.box [.sl 0 1 (u8s bs), .v (.int .i64 (q : Int))]), some (.arr 1 (AD (List.replicate i true)))]) 36 ⟨0, rfl, by omega, by simp, by simp⟩ ?_
 rintro J hJ m E H ⟨i, rfl, hi, rfl, rfl⟩
 by_cases h : i < 36
 ·have h' : (i : Int) < 36 := by omega
  by_cases h0 : i = 0
  ·subst h0
   simp [BO]
   exact ⟨_, by omega, hJ _ _ _ ⟨1, rfl, by omega, by simp, by simp [AD]⟩⟩
  ·have e : AD (List.replicate i true) ++ [.v (.bool true)] = AD (List.replicate (i + 1) true) := by rw [List.replicate_succ', Gx]; rfl
   simp [BO, h', h0, e]
   exact ⟨by omega, by omega, _, by omega, hJ _ _ _ ⟨i + 1, rfl, h, by simp, by simp⟩⟩
 ·have : i = 36 := by omega
  subst this
  simp [BO]
  refine ⟨_, _, ⟨6, 6, List.replicate 36 true, q, rfl, by simp, by omega, by omega, by omega, by omega, hq, rfl⟩, ?_⟩
  simp [Kw]
  rfl
theorem aK (bs : List Int) (p : Nat) (n W T : Int) (hb : bs.length ≤ 2000) (hB : Byt bs) (hp : p < 2 ^ 39) (hn : n < 2 ^ 39) (hW : 1 ≤ W ∧ W ≤ 6) (hT : 0 ≤ T ∧ T ≤ 24) (hm : 0 ≤ W * T ∧ W * T ≤ 36) (E : ES) (P2 : Int) (hP2 : P2 = ((p + 1 + 1 : Nat) : Int))
  (e0 : get E 0 = .lp 0 0 0 0) (e1 : get E 1 = .v (.int .i64 n)) (e4 : get E 4 = .lp 0 1 0 0) (e5 : get E 5 = .lp 0 2 0 0) (e73 : get E 73 = .lp 0 0 0 0) :
  FV Tryz.prog 54 [true, false] [AV.lp 0 0 0 0, AV.v (Value.int IntKind.i64 8)] E
   [some (Row.box [AV.sl 0 1 (u8s bs), AV.v (Value.int IntKind.i64 P2)]), some (Row.box [AV.v (Value.int IntKind.i64 0), AV.v (Value.int IntKind.i64 0), AV.os 1 []]), some (Row.box [AV.v (Value.int IntKind.i64 W), AV.v (Value.int IntKind.i64 T), AV.os 1 []])]
   (some 27)
   (Ha Tryz.prog md5
    [{ dst := some 28, k := AK.bin BinOp.add 0, xs := [Opd.c (AV.v (Value.int IntKind.i64 2)), Opd.t 27], guard := none }, { dst := some 6, k := AK.mv, xs := [Opd.t 28], guard := none }]
    (awp Tryz.prog md5 Jp (Yq [RV.c 4 true 3] 73 2 [true, false] (OQ bs p 100)))) := by
 subst hP2
 refine AE (AB bs (p + 1 + 1) 8 hb hB (by omega)) [0] (by simp) (by simp) (by simp) ?_
 rintro _ _ ⟨z, z0, z1, rfl, rfl⟩
 simp [Jp, AO, e0, e1, e4, e5, e73]
 refine ⟨by omega, ?_⟩
 obtain ⟨N, hN⟩ : ∃ N : Nat, W * T = N := ⟨(W * T).toNat, by omega⟩
 refine AH (fun m E H => ∃ (i q : Nat) (cs : List Bool), m = N - i ∧ i ≤ N ∧ cs.length = i ∧ q ≤ p + 3 + i ∧
  H = some (.box [.sl 0 1 (u8s bs), .v (.int .i64 q)]) :: some (.box [.v (.int .i64 0), .v (.int .i64 0), .os 1 []]) :: N0 W T 3 cs ∧
  E = [(0, .lp 0 0 0 0), (1, .v (.int .i64 n)), (4, .lp 0 1 0 0), (5, .lp 0 2 0 0), (6, .v (.int .i64 (2 + z))), (7, .v (.int .i64 i)), (73, .lp 0 0 0 0)]) N ⟨0, p + 1 + 1 + 1, [], rfl, by omega, rfl, by omega, by simp [N0], by simp⟩ ?_
 rintro J hJ m E H ⟨i, q, cs, rfl, hi, hlen, hq, rfl, rfl⟩
 by_cases h : i < N
 ·have h' : (i : Int) < W * T := by omega
  have next : ∀ c : Bool, Cx J (N - i) [(0, .lp 0 0 0 0), (1, .v (.int .i64 n)), (4, .lp 0 1 0 0), (5, .lp 0 2 0 0), (6, .v (.int .i64 (2 + z))), (7, .v (.int .i64 (i + 1))), (73, .lp 0 0 0 0)]
    (some (.box [.sl 0 1 (u8s bs), .v (.int .i64 (q + 1))]) :: some (.box [.v (.int .i64 0), .v (.int .i64 0), .os 1 []]) :: N0 W T 3 (cs ++ [c])) := by
   intro c
   exact ⟨_, by omega, hJ _ _ _ ⟨i + 1, q + 1, cs ++ [c], rfl, h, by simp [hlen], by omega, by simp, by simp⟩⟩
  by_cases hc : cs = []
  ·subst hc
   simp [BN, N0, h']
   (repeat' first | omega | apply And.intro) <;>
   ·refine AE (AB bs q 10 hb hB (by omega)) [0] (by simp) (by simp) (by simp) ?_
    rintro _ _ ⟨x, x0, x1, rfl, rfl⟩
    simp
    have n2 := next (decide (x ≤ 2 + z))
    simp [N0, AD] at n2
    exact ⟨by omega, n2⟩
  ·have hcl : ¬ cs.length = 0 := fun h => hc (List.eq_nil_of_length_eq_zero h)
   simp [BN, N0, h', hc]
   (repeat' first | omega | apply And.intro) <;>
   ·refine AE (AB bs q 10 hb hB (by omega)) [0] (by simp) (by simp) (by simp) ?_
    rintro _ _ ⟨x, x0, x1, rfl, rfl⟩
    simp
    have n2 := next (decide (x ≤ 2 + z))
    simp [N0, Gx, TS] at n2
    (repeat' first | omega | assumption | apply And.intro)
 have : i = N := by omega
 subst this
 have h' : ¬ (i : Int) < W * T := by omega
 have fin : ∀ (W2 T2 : Int) (cs2 : List Bool) (q2 : Nat), cs2.length ≤ 37 → 0 ≤ W2 → W2 ≤ 6 → 0 ≤ T2 → T2 ≤ 24 → q2 ≤ p + 100 → OQ bs p 100 (Kw W2 T2 cs2) [rdA bs q2, .bot] :=
  fun W2 T2 cs2 q2 a1 a2 a3 a4 a5 a6 => ⟨W2, T2, cs2, q2, rfl, a1, a2, a3, a4, a5, a6, rfl⟩
 by_cases hc : cs = []
 ·subst hc
  simp [BN, N0, h']
  refine ⟨by omega, ?_⟩
  refine AE (CF bs q n hb hB (by omega) (by omega)) [0] (by simp) (by simp) (by simp) ?_
  rintro _ _ ⟨b, q2, rfl, hq2, rfl⟩
  cases b with
  | false =>
    simp
    refine ⟨_, _, fin W T [] q2 (by simp) (by omega) (by omega) (by omega) (by omega) (by omega), ?_⟩
    simp [Kw]
  | true =>
  simp
  refine AE (AB bs q2 3 hb hB (by omega)) [0] (by simp) (by simp) (by simp) ?_
  rintro _ _ ⟨x, x0, x1, rfl, rfl⟩
  by_cases c0 : x = 0
  ·simp [c0]
   refine ⟨_, _, fin W T [true] (q2 + 1) (by simp) (by omega) (by omega) (by omega) (by omega) (by omega), ?_⟩
   simp [Kw, AD]
  by_cases c1 : x = 1
  ·simp [c1]
   refine ⟨_, _, fin 0 0 [] (q2 + 1) (by simp) (by omega) (by omega) (by omega) (by omega) (by omega), ?_⟩
   simp [Kw, AD]
  simp [c0, c1]
  exact aJ bs p (q2 + 1) (by omega)
 ·have hcl : ¬ cs.length = 0 := fun h => hc (List.eq_nil_of_length_eq_zero h)
  simp [BN, N0, h', hc]
  refine ⟨by omega, ?_⟩
  refine AE (CF bs q n hb hB (by omega) (by omega)) [0] (by simp) (by simp) (by simp) ?_
  rintro _ _ ⟨b, q2, rfl, hq2, rfl⟩
  cases b with
  | false =>
    simp
    refine ⟨_, _, fin W T cs q2 (by omega) (by omega) (by omega) (by omega) (by omega) (by omega), ?_⟩
    simp [Kw]
  | true =>
  simp
  refine AE (AB bs q2 3 hb hB (by omega)) [0] (by simp) (by simp) (by simp) ?_
  rintro _ _ ⟨x, x0, x1, rfl, rfl⟩
  by_cases c0 : x = 0
  ·simp [c0]
   refine ⟨by omega, ?_⟩
   refine ⟨_, _, fin W T (cs ++ [true]) (q2 + 1) (by simp; omega) (by omega) (by omega) (by omega) (by omega) (by omega), ?_⟩
   simp [Kw, Gx, TS]
   exact List.take_of_length_le (by simp)
  by_cases c1 : x = 1
  ·simp [c1]
   refine ⟨_, _, fin 0 0 [] (q2 + 1) (by simp) (by omega) (by omega) (by omega) (by omega) (by omega), ?_⟩
   simp [Kw, AD]
  simp [c0, c1]
  exact aJ bs p (q2 + 1) (by omega)
theorem L9 (bs : List Int) (p : Nat) (n : Int) (hb : bs.length ≤ 2000) (hB : Byt bs) (hp : p < 2 ^ 39) (hn : n < 2 ^ 39) :
  SoundSet Tryz.prog L5 [rdA bs p, .v (.int .i64 n)] (OQ bs p 100) := by
 refine Hb (md := md5) (ms := [true, false]) SY (by simp) ?_
 simp [L6]
 refine AE (AB bs p 6 hb hB (by omega)) [0] (by simp) (by simp) (by simp) ?_
 rintro _ _ ⟨x, x0, x1, rfl, rfl⟩
 simp
 refine ⟨by omega, ?_⟩
 refine AE (AB bs (p + 1) 6 hb hB (by omega)) [0] (by simp) (by simp) (by simp) ?_
 rintro _ _ ⟨y, y0, y1, rfl, rfl⟩
 simp
 have hW : 1 ≤ 1 + x ∧ 1 + x ≤ 6 := by omega
 have hY : 1 ≤ 1 + y ∧ 1 + y ≤ 6 := by omega
 have hm0 : 0 ≤ (1 + x) * (1 + y) := Int.mul_nonneg (by omega) (by omega)
 have hm1 : (1 + x) * (1 + y) ≤ 6 * 6 := Int.mul_le_mul hW.2 hY.2 (by omega) (by omega)
 refine ⟨by omega, by omega, ?_⟩
 have hT1 : 0 ≤ 24 / (1 + x) ∧ 24 / (1 + x) ≤ 24 := ⟨Int.ediv_nonneg (by omega) (by omega), Int.ediv_le_self _ (by omega)⟩
 have hT2 : (1 + x) * (24 / (1 + x)) ≤ 24 := Int.mul_ediv_self_le (by omega)
 have hT3 : 0 ≤ (1 + x) * (24 / (1 + x)) := Int.mul_nonneg (by omega) hT1.1
 obtain ⟨T1, hTe1⟩ : ∃ T, 24 / (1 + x) = T := ⟨_, rfl⟩
 obtain ⟨T2, hTe2⟩ : ∃ T, 1 + y = T := ⟨_, rfl⟩
 obtain ⟨W, hWe⟩ : ∃ W, 1 + x = W := ⟨_, rfl⟩
 rw [hTe1, hWe] at hT2 hT3
 rw [hTe1] at hT1
 rw [hWe] at hTe1
 rw [hTe2, hWe] at hm0 hm1
 rw [hTe2] at hY
 rw [hWe] at hW
 simp only [hWe, hTe1, hTe2]
 clear hTe1 hTe2 hWe
 have e2 : (p : Int) + 1 + 1 = ((p + 1 + 1 : Nat) : Int) := by simp
 refine ⟨fun hgt => ⟨by omega, ?_⟩, fun hgt => ?_⟩
 ·refine aK bs p n W T1 hb hB hp hn hW hT1 ⟨hT3, by omega⟩ _ _ e2 ?_ ?_ ?_ ?_ ?_ <;> rfl
 ·refine aK bs p n W T2 hb hB hp hn hW ⟨by omega, by omega⟩ ⟨hm0, hm1⟩ _ _ e2 ?_ ?_ ?_ ?_ ?_ <;> rfl
end Go.Proofs.Dev
