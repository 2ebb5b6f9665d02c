/- Contracts of the functions of the program over slots and rows, each proved against the program itself; no condition beyond those that each theorem names. -/
import Derived.Test.YtfkmfobbgoflgaaGreatDoorAK
import Derived.Test.YtfkmfobbgoflgaaGreatDoorProg
import Derived.Test.YtfkmfobbgoflgaaGreatDoorAH
import Derived.Shelf.Sort.Plain
import Derived.Shelf.Slices.CompactI
import Derived.Ground.Names2Prog
set_option linter.unusedSimpArgs false
set_option linter.unusedVariables false
set_option maxRecDepth 100000
namespace Go.Proofs.Dev
theorem KW (x lo hi : Int) : SoundAt Tryz.prog Pv [.v (.int .i64 x), .v (.int .i64 lo), .v (.int .i64 hi)] (.v (.bool (decide (lo ≤ x ∧ x ≤ hi)))) [.bot, .bot, .bot] := by
 refine AE (md := md0) (ms := [false, false, false]) c8 (by simp) ?_
 simp [YP]
 constructor
 ·intro h; simp [h]
 ·intro h; omega
theorem A7 {x lo hi : Int} (h : lo ≤ x ∧ x ≤ hi) : SoundAt Tryz.prog Pv [.v (.int .i64 x), .v (.int .i64 lo), .v (.int .i64 hi)] (.v (.bool true)) [.bot, .bot, .bot] := by
 have := KW x lo hi
 rwa [decide_eq_true h] at this
theorem D6 {x lo hi : Int} (h : ¬ (lo ≤ x ∧ x ≤ hi)) : SoundAt Tryz.prog Pv [.v (.int .i64 x), .v (.int .i64 lo), .v (.int .i64 hi)] (.v (.bool false)) [.bot, .bot, .bot] := by
 have := KW x lo hi
 rwa [decide_eq_false h] at this
theorem T5 (bs : List Bool) (hb : bs.length < 2 ^ 40) : SoundAt Tryz.prog Tr [.sl 1 1 (AC bs)] (.v (.int .i64 (Bg bs))) [.bot] := by
 refine AE (md := md0) (ms := [false]) ZL (by simp) ?_
 simp [Ts]
 refine AF (fun m E H => ∃ i : Nat, m = bs.length - i ∧ i ≤ bs.length ∧ H = [] ∧ E = [(3, .v (.int .i64 (Bg (bs.take i)))), (6, .sl 1 1 (AC bs)), (7, .v (.int .i64 bs.length)), (8, .v (.int .i64 i))]) bs.length ⟨0, by simp [Bg]⟩ ?_
 rintro J hJ m E H ⟨i, rfl, hi, rfl, rfl⟩
 simp [OI]
 refine ⟨fun h => ?_, fun h => ?_⟩
 ·have e := O2 bs i h
  have e3 := Hx (bs.take i)
  rw [List.length_take] at e3
  simp [h]
  refine ⟨fun hb => ⟨by omega, by omega, _, by omega, hJ _ _ _ ⟨i + 1, rfl, h, rfl, ?_⟩⟩, fun hb => ⟨by omega, _, by omega, hJ _ _ _ ⟨i + 1, rfl, h, rfl, ?_⟩⟩⟩ <;> simp [e, hb]
 ·have : i = bs.length := by omega
  subst this
  simp
theorem JQ (W T : Int) (cs : List Bool) (hb : cs.length < 2 ^ 40) : SoundAt Tryz.prog JJ [.agg [.v (.int .i64 W), .v (.int .i64 T), .sl 1 1 (AC cs)]] (.v (.bool (A0 W T cs))) [.bot] := by
 refine AE (md := md0) (ms := [false]) Pw (by simp) ?_
 simp [JK]
 refine AA (KW W 1 6) ?_
 simp
 refine ⟨fun h h' => ?_, fun h => ?_⟩
 ·refine AA (KW T 1 6) ?_
  have hx : T ≤ 6 → W * T ≤ 36 ∧ (1 ≤ T → 1 ≤ W * T) := fun ht => ⟨(by
   by_cases h0 : 0 ≤ T
   ·exact Int.mul_le_mul h' ht h0 (by omega)
   ·have : W * T ≤ 0 := Int.mul_nonpos_of_nonneg_of_nonpos (by omega) (by omega)
    omega), fun h1 => Int.mul_pos (by omega) (by omega)⟩
  simp
  refine ⟨fun h1 h2 => ⟨by have := hx h2; omega, fun h3 => ?_, fun h3 => ?_⟩, fun h1 => ?_⟩
  ·refine AA (T5 cs hb) ?_
   simp [A0, h, h', h1, h2, h3]
   omega
  ·simp [A0]; omega
  ·simp [A0]; omega
 ·simp [A0]; omega
theorem T6 (n : Int) (h : 0 ≤ n) (h2 : n < 2 ^ 60) : SoundAt Tryz.prog Tt [.v (.int .i64 n)] (.v (.int .i64 (Cn n))) [.bot] := by
 refine AE (md := md0) (ms := [false]) ZM (by simp) ?_
 simp [Tu, Cn]
 omega
theorem ZO (a b : Int) (h1 : 0 ≤ a ∧ a ≤ 6) (h2 : 0 ≤ b ∧ b ≤ 6) : SoundAt Tryz.prog Tv [.v (.int .i64 a), .v (.int .i64 b)] (.v (.int .i64 (YC a b))) [.bot, .bot] := by
 refine AE (md := md0) (ms := [false, false]) ZN (by simp) ?_
 simp [Tw, YC]
 rw [Int.min_def, Int.max_def]
 (repeat' split) <;> omega
theorem SS (W T : Int) (cs : List Bool) (k : Int) (hW : 1 ≤ W) (h0 : 0 ≤ k) (h1 : k < 2 ^ 40) :
  SoundAt Tryz.prog LY [.agg [.v (.int .i64 W), .v (.int .i64 T), .sl 1 1 (AC cs)], .v (.int .i64 k)] (.tup [.v (.int .i64 (k % W)), .v (.int .i64 (k / W))]) [.bot, .bot] := by
 refine AE (md := md0) (ms := [false, false]) SQ (by simp) ?_
 simp [LZ]
 omega
theorem CQ (W T : Int) (cs : List Bool) (k way : Int) (hr : A0 W T cs = true) (h0 : 0 ≤ k) (h1 : k < cs.length) :
  SoundAt Tryz.prog Dj [.agg [.v (.int .i64 W), .v (.int .i64 T), .sl 1 1 (AC cs)], .v (.int .i64 k), .v (.int .i64 way)] (.v (.int .i64 (AJ W T k way))) [.bot, .bot, .bot] := by
 refine AE (md := md0) (ms := [false, false, false]) P0 (by simp) ?_
 obtain ⟨w1, w2, t1, t2, l1, _⟩ := CM hr
 have hl := AZ hr
 have hxy := Wj (T := T) (k := k) w1 h0 (by omega)
 have e1 : AJ W T k way = if way = 1 ∧ k % W < W - 1 then k + 1 else if way = 2 ∧ k / W < T - 1 then k + W else if way = 3 ∧ 0 < k % W then k - 1 else if way = 4 ∧ 0 < k / W then k - W else -1 := rfl
 rw [e1]
 clear e1 hr
 simp [JN]
 refine AA (SS W T cs k w1 h0 (by omega)) ?_
 generalize hA : k % W = A at *
 generalize hB : k / W = B at *
 have hBW : 0 ≤ B * W := Int.mul_nonneg hxy.2.2.1 (by omega)
 have hBW2 : B ≤ 6 := by omega
 generalize hP : B * W = P at *
 by_cases c1 : way = 1
 ·subst c1
  by_cases d : A < W - 1
  ·simp [d]
   (repeat' first | assumption | omega | apply And.intro)
   refine AA (A7 (x := A + 1) (lo := 0) (hi := W - 1) (by omega)) ?_
   simp
   (repeat' first | assumption | omega | apply And.intro)
   refine AA (A7 (x := B) (lo := 0) (hi := T - 1) (by omega)) ?_
   simp [Int.add_mul, Int.sub_mul, hP]
   omega
  ·simp [d]
   (repeat' first | assumption | omega | apply And.intro)
   refine AA (D6 (x := A + 1) (lo := 0) (hi := W - 1) (by omega)) ?_
   simp
 by_cases c2 : way = 2
 ·subst c2
  by_cases d : B < T - 1
  ·simp [d]
   (repeat' first | assumption | omega | apply And.intro)
   refine AA (A7 (x := A) (lo := 0) (hi := W - 1) (by omega)) ?_
   simp
   (repeat' first | assumption | omega | apply And.intro)
   refine AA (A7 (x := B + 1) (lo := 0) (hi := T - 1) (by omega)) ?_
   simp [Int.add_mul, Int.sub_mul, hP]
   omega
  ·simp [d]
   (repeat' first | assumption | omega | apply And.intro)
   refine AA (A7 (x := A) (lo := 0) (hi := W - 1) (by omega)) ?_
   simp
   (repeat' first | assumption | omega | apply And.intro)
   refine AA (D6 (x := B + 1) (lo := 0) (hi := T - 1) (by omega)) ?_
   simp
 by_cases c3 : way = 3
 ·subst c3
  by_cases d : 0 < A
  ·simp [d]
   (repeat' first | assumption | omega | apply And.intro)
   refine AA (A7 (x := A - 1) (lo := 0) (hi := W - 1) (by omega)) ?_
   simp
   (repeat' first | assumption | omega | apply And.intro)
   refine AA (A7 (x := B) (lo := 0) (hi := T - 1) (by omega)) ?_
   simp [Int.add_mul, Int.sub_mul, hP]
   omega
  ·simp [d]
   (repeat' first | assumption | omega | apply And.intro)
   refine AA (D6 (x := A - 1) (lo := 0) (hi := W - 1) (by omega)) ?_
   simp
 by_cases c4 : way = 4
 ·subst c4
  by_cases d : 0 < B
  ·simp [d]
   (repeat' first | assumption | omega | apply And.intro)
   refine AA (A7 (x := A) (lo := 0) (hi := W - 1) (by omega)) ?_
   simp
   (repeat' first | assumption | omega | apply And.intro)
   refine AA (A7 (x := B - 1) (lo := 0) (hi := T - 1) (by omega)) ?_
   simp [Int.add_mul, Int.sub_mul, hP]
   omega
  ·simp [d]
   (repeat' first | assumption | omega | apply And.intro)
   refine AA (A7 (x := A) (lo := 0) (hi := W - 1) (by omega)) ?_
   simp
   (repeat' first | assumption | omega | apply And.intro)
   refine AA (D6 (x := B - 1) (lo := 0) (hi := T - 1) (by omega)) ?_
   simp
 simp [c1, c2, c3, c4]
theorem Wx (W T : Int) (cs : List Bool) (ds : List Int) (hb : cs.length < 2 ^ 40) (hd : ds.length < 2 ^ 40) :
  SoundAt Tryz.prog Px [.agg [.v (.int .i64 W), .v (.int .i64 T), .sl 1 1 (AC cs)], .sl 1 1 (AB ds)] (.v (.bool (Cg cs ds))) [.bot, .bot] := by
 refine AE (md := md0) (ms := [false, false]) Wu (by simp) ?_
 simp [Py]
 refine ⟨fun hl => ?_, fun hl => ?_⟩
 ·simp [Cg]; omega
 ·have hl' : ds.length = cs.length := by omega
  refine AF (fun m E H => ∃ i : Nat, m = ds.length - i ∧ i ≤ ds.length ∧ U6 i (fun k => KO cs ds k) = true ∧ H = [some (.box [.v (.int .i64 W), .v (.int .i64 T), .sl 1 1 (AC cs)])] ∧ E = [(2, .lp 0 0 0 0), (13, .sl 1 1 (AB ds)), (14, .v (.int .i64 ds.length)), (15, .v (.int .i64 i))]) ds.length ⟨0, by simp [Gs]⟩ ?_
  rintro J hJ m E H ⟨i, rfl, hi, ha, rfl, rfl⟩
  by_cases h : i < ds.length
  ·have h2 : i < cs.length := by omega
   have next : KO cs ds i = true → C6 J (ds.length - i) [(2, .lp 0 0 0 0), (13, .sl 1 1 (AB ds)), (14, .v (.int .i64 ds.length)), (15, .v (.int .i64 (i + 1)))] [some (.box [.v (.int .i64 W), .v (.int .i64 T), .sl 1 1 (AC cs)])] :=
    fun hd => ⟨_, by omega, hJ _ _ _ ⟨i + 1, rfl, h, by rw [Gt, ha, hd]; rfl, rfl, rfl⟩⟩
   have stop : KO cs ds i = false → Cg cs ds = false := fun hd => by simp only [Cg, hl', decide_true, Bool.true_and]; exact GQ h2 hd
   cases hc : atb cs i with
   | true =>
     simp [E3, h, h2, hc]
     by_cases hx : 0 ≤ ati ds i ∧ ati ds i ≤ 6
     ·refine AA (A7 hx) ?_
      simp [hc, h2]
      exact ⟨by omega, next (by simp [KO, hc, hx])⟩
     ·refine AA (D6 hx) ?_
      simp [hc, h2]
      exact stop (by simp [KO, hc]; omega)
   | false =>
     simp [E3, h, h2, hc]
     simp [KO, hc] at next stop ⊢
     exact ⟨fun hx => stop hx, fun hx => ⟨by omega, next hx⟩⟩
  ·have : i = ds.length := by omega
   subst this
   simp [E3]
   simp [Cg, hl'] at ha ⊢
   exact ha
theorem JR (W T : Int) (cs : List Bool) (ds : List Int) (hb : cs.length < 2 ^ 40) (hd : ds.length < 2 ^ 40) :
  SoundAt Tryz.prog JL [.agg [.v (.int .i64 W), .v (.int .i64 T), .sl 1 1 (AC cs)], .sl 1 1 (AB ds)] (.v (.bool (A0 W T cs && Cg cs ds))) [.bot, .bot] := by
 refine AE (md := md0) (ms := [false, false]) Pz (by simp) ?_
 simp [JM]
 refine AA (JQ W T cs hb) ?_
 cases hr : A0 W T cs with
 | false => simp
 | true =>
   simp
   refine AA (Wx W T cs ds hb hd) ?_
   simp
theorem JS (W T : Int) (cs : List Bool) (ls : List Int) (hr : A0 W T cs = true) (hd : ls.length < 2 ^ 40) :
  SoundAt Tryz.prog JO [.agg [.v (.int .i64 W), .v (.int .i64 T), .sl 1 1 (AC cs)], .sl 1 1 (AB ls)] (.v (.bool (AO W T cs ls))) [.bot, .bot] := by
 refine AE (md := md0) (ms := [false, false]) P1 (by simp) ?_
 simp [JP]
 refine ⟨fun hl => ?_, fun hl => ?_⟩
 ·simp [AO]; omega
 ·have hl' : ls.length = cs.length := by omega
  obtain ⟨w1, w2, t1, t2, l1, _⟩ := CM hr
  refine AF (fun m E H => ∃ i : Nat, m = ls.length - i ∧ i ≤ ls.length ∧ U6 i (fun k => J5 W T cs ls k) = true ∧ H = [some (.box [.v (.int .i64 W), .v (.int .i64 T), .sl 1 1 (AC cs)])] ∧ E = [(1, .sl 1 1 (AB ls)), (2, .lp 0 0 0 0), (14, .sl 1 1 (AB ls)), (15, .v (.int .i64 ls.length)), (16, .v (.int .i64 i))]) ls.length ⟨0, by simp [Gs]⟩ ?_
  rintro J hJ m E H ⟨i, rfl, hi, ha, rfl, rfl⟩
  by_cases h : i < ls.length
  ·have h2 : i < cs.length := by omega
   have next : J5 W T cs ls i = true → C6 J (ls.length - i) [(1, .sl 1 1 (AB ls)), (2, .lp 0 0 0 0), (14, .sl 1 1 (AB ls)), (15, .v (.int .i64 ls.length)), (16, .v (.int .i64 (i + 1)))] [some (.box [.v (.int .i64 W), .v (.int .i64 T), .sl 1 1 (AC cs)])] :=
    fun hd => ⟨_, by omega, hJ _ _ _ ⟨i + 1, rfl, h, by rw [Gt, ha, hd]; rfl, rfl, rfl⟩⟩
   have stop : J5 W T cs ls i = false → AO W T cs ls = false := fun hd => by simp only [AO, hl', decide_true, Bool.true_and]; exact GQ h2 hd
   by_cases z : ati ls i = 0
   ·simp [CO, h, h2, z]
    exact ⟨by omega, next (by simp [J5, z])⟩
   have hst := GR (T := T) (k := i) (way := ati ls i) w1 (by omega) (by omega)
   have one : SoundAt Tryz.prog Dj [.agg [.v (.int .i64 W), .v (.int .i64 T), .sl 1 1 (AC cs)], .v (.int .i64 i), .v (.int .i64 (ati ls i))] (.v (.int .i64 (AJ W T i (ati ls i)))) [.bot, .bot, .bot] := CQ W T cs i (ati ls i) hr (by omega) (by omega)
   simp [J5, z] at next stop
   generalize hto : AJ W T i (ati ls i) = to at *
   simp [CO, h, h2, z]
   refine AA one ?_
   rcases hst with hst | ⟨hst, hst2, g1, g2⟩
   ·subst hst
    simp
    exact stop (by omega)
   have two := T6 (ati ls i) (by omega) (by omega)
   have e1 : ¬ to < 0 := by omega
   have e2 : to < cs.length := by omega
   have e3 : to < ls.length := by omega
   simp [g1, g2, hst] at next stop
   cases hc : atb cs i with
   | false => simp [e1, e2, e3, hst, hc, h2]; exact stop (by simp [hc])
   | true =>
   cases hct : atb cs to with
   | false => simp [e1, e2, e3, hst, hc, hct, h2]; exact stop (by simp [hct])
   | true =>
   simp [hc, hct] at next stop
   simp [e1, e2, e3, hst, hc, hct, h2]
   (repeat' first | assumption | omega | apply And.intro) <;>
   ·refine AA two ?_
    simp [e1, e2, e3, hst, hct, h]
    exact ⟨stop, fun hq => ⟨by omega, next hq⟩⟩
  ·have : i = ls.length := by omega
   subst this
   simp [CO]
   simp [AO, hl'] at ha ⊢
   exact ha
theorem O4 (W T : Int) (cs : List Bool) (ds ls : List Int) (hok : okB W T cs ds ls = true) :
  SoundAt Tryz.prog IB [.agg [.v (.int .i64 W), .v (.int .i64 T), .sl 1 1 (AC cs)], .sl 1 1 (AB ds), .sl 1 1 (AB ls)] (.os 1 (AB (B3 W T ds ls))) [.bot, .bot, .bot] := by
 refine AE (md := md0) (ms := [false, false, false]) O3 (by simp) ?_
 obtain ⟨hr, e1, e2, _⟩ := Mg hok
 have hl36 := AZ hr
 simp [IC]
 refine AF (fun m E H => ∃ i : Nat, m = ls.length - i ∧ i ≤ ls.length ∧ H = [some (.box [.v (.int .i64 W), .v (.int .i64 T), .sl 1 1 (AC cs)]), some (.arr 1 (AB (Aw W T ds ls i)))] ∧
  E = [(1, .sl 1 1 (AB ds)), (3, .lp 0 0 0 0), (7, .ls 1 1 0 (Aw W T ds ls i).length), (10, .sl 1 1 (AB ls)), (11, .v (.int .i64 ls.length)), (12, .v (.int .i64 i))]) ls.length ⟨0, by simp [Aw]⟩ ?_
 rintro J hJ m E H ⟨i, rfl, hi, rfl, rfl⟩
 by_cases h : i < ls.length
 case neg =>
  have : i = ls.length := by omega
  subst this
  simp [CF]
  refine AA (D4 (Aw W T ds ls ls.length)) ?_
  simp [B3]
 have hlen := En W T ds ls i
 have hsuc := FG W T ds ls i
 have next : ∀ (x : List Int), Aw W T ds ls (i + 1) = Aw W T ds ls i ++ x → C6 J (ls.length - i) [(1, .sl 1 1 (AB ds)), (3, .lp 0 0 0 0), (7, .ls 1 1 0 ((Aw W T ds ls i).length + x.length)), (10, .sl 1 1 (AB ls)), (11, .v (.int .i64 ls.length)), (12, .v (.int .i64 (i + 1)))]
   [some (.box [.v (.int .i64 W), .v (.int .i64 T), .sl 1 1 (AC cs)]), some (.arr 1 (AB (Aw W T ds ls i) ++ AB x))] := by
  intro x hx
  refine ⟨_, by omega, hJ _ _ _ ⟨i + 1, rfl, h, ?_, ?_⟩⟩
  ·rw [hx, LA]
  ·rw [hx, List.length_append]; rfl
 have hds : i < ds.length := by omega
 by_cases hw : ati ls i = 1 ∨ ati ls i = 2
 ·obtain ⟨o1, o2, o3, o4⟩ := YQ hok (k := i) (by omega) hw
  have one : SoundAt Tryz.prog Dj [.agg [.v (.int .i64 W), .v (.int .i64 T), .sl 1 1 (AC cs)], .v (.int .i64 i), .v (.int .i64 (ati ls i))] (.v (.int .i64 (AJ W T i (ati ls i)))) [.bot, .bot, .bot] := CQ W T cs i (ati ls i) hr (by omega) (by omega)
  have two := ZO (ati ds i) (ati ds (AJ W T i (ati ls i))) o3 o4
  have next1 := next _ (by rw [hsuc, if_pos hw])
  clear hsuc next
  simp at next1
  generalize hto : AJ W T i (ati ls i) = to at *
  have o5 : to < ds.length := by omega
  have hb : (Aw W T ds ls i).length ≤ 36 := by omega
  rcases hw with hw | hw <;> rw [hw] at one <;>
  ·simp [CF, h, hw, hds]
   (repeat' first | assumption | apply And.intro) <;>
   ·refine AA one ?_
    simp [o1, o5, hds]
    (repeat' first | assumption | apply And.intro) <;>
    ·refine AA two ?_
     simp
     exact ⟨by omega, by omega, next1⟩
 ·have hw1 : ¬ ati ls i = 1 := fun e => hw (.inl e)
  have hw2 : ¬ ati ls i = 2 := fun e => hw (.inr e)
  simp [CF, h, hw1, hw2]
  rw [if_neg hw, List.append_nil] at hsuc
  refine ⟨by omega, _, by omega, hJ _ _ _ ⟨i + 1, rfl, h, ?_, ?_⟩⟩ <;> rw [hsuc]
  rfl
@[simp] abbrev F6 : Nat := 176
def F7 : ACode := .seq (.reg [.o 2 .mv [.c (.os 1 [])]]) <| .seq (.seq (.reg [.m 3 0, .o 4 (.nilq false) [.t 3]]) <| .cond (.t 4) ( .seq (.reg [.o 2 .mv [.c (.os 1 [])]]) <| .ret) ( .skip)) <| .seq (.reg [.o 5 (.bsl 1) [], .m 6 0, .o 7 (.app 1 8 true) [.t 5, .t 6], .m 2 7]) <| .ret
theorem MC : cFn Tryz.prog F6 8 [.t 2] F7 := ⟨Tryz.f176, _, Tryz.func176, rfl, by kernel_rfl, by kernel_rfl, by kernel_rfl, by kernel_rfl⟩
@[simp] abbrev La : Nat := 126
def Lb : ACode := .seq (.reg [.o 2 .mv [.c (.os 1 [])]]) <| .seq (.reg [.m 3 0, .o 4 (.call 176 []) [.t 3], .o 5 (.call 175 []) [.t 4], .m 2 5]) <| .ret
theorem ST : cFn Tryz.prog La 6 [.t 2] Lb := ⟨Tryz.f126, _, Tryz.func126, rfl, by kernel_rfl, by kernel_rfl, by kernel_rfl, by kernel_rfl⟩
@[simp] abbrev R8 : Nat := 171
def ID : ACode := .seq (.seq (.reg [.m 6 5, .m 7 0, .n 8 7, .o 9 (.bin .lss 0) [.t 6, .t 8]]) <| .cond (.t 9) ( .skip) ( .exit 0)) <| .seq (.block 1 ( .seq (.reg [.m 12 0, .m 13 5, .o 14 (.iadr 1) [.t 12, .t 13], .l 15 14, .m 16 1, .o 17 (.bin .eql 0) [.t 15, .t 16]]) <| .cond (.t 17) ( .seq (.reg [.o 4 .mv [.kb true]]) <| .ret) ( .skip))) <| .reg [.m 10 5, .o 11 (.bin .add 0) [.t 10, .k 1], .m 5 11]
def R9 : ACode := .seq (.reg [.o 4 .mv [.kb false]]) <| .seq (.seq (.reg [.o 5 .mv [.k 0]]) <| .block 0 ( .loop [(0, 1)] [0, 1, 5] ID)) <| .seq (.reg [.o 4 .mv [.kb false]]) <| .ret
theorem YR : cFn Tryz.prog R8 18 [.t 4] R9 := ⟨Tryz.f171, _, Tryz.func171, rfl, by kernel_rfl, by kernel_rfl, by kernel_rfl, by kernel_rfl⟩
@[simp] abbrev P3 : Nat := 123
def HD : ACode := .seq (.seq (.reg [.m 4 3, .m 5 0, .n 6 5, .o 7 (.bin .lss 0) [.t 4, .t 6]]) <| .cond (.t 7) ( .skip) ( .exit 0)) <| .seq (.block 1 ( .seq (.draw ( .take (.m 10 0) <| .take (.m 11 3) <| .take (.o 12 (.slice 1 false false true false) [.t 10, .t 11]) <| .take (.m 13 0) <| .take (.m 14 3) <| .take (.o 15 (.iadr 1) [.t 13, .t 14]) <| .al (.l 16 15) ( .al (.o 17 (.call 171 []) [.t 12, .t 16]) ( .done)))) <| .cond (.t 17) ( .seq (.reg [.o 2 .mv [.kb false]]) <| .ret) ( .skip))) <| .reg [.m 8 3, .o 9 (.bin .add 0) [.t 8, .k 1], .m 3 9]
def P4 : ACode := .seq (.reg [.o 2 .mv [.kb false]]) <| .seq (.seq (.reg [.o 3 .mv [.k 0]]) <| .block 0 ( .loop [(0, 1)] [0, 3] HD)) <| .seq (.reg [.o 2 .mv [.kb true]]) <| .ret
theorem Wy : cFn Tryz.prog P3 18 [.t 2] P4 := ⟨Tryz.f123, _, Tryz.func123, rfl, by kernel_rfl, by kernel_rfl, by kernel_rfl, by kernel_rfl⟩
@[simp] abbrev JT : Nat := 137
def JU : ACode := .seq (.reg [.o 3 .box [.t 0], .o 6 .mv [.kb false]]) <| .seq (.reg [.la 8 3 3, .m 9 1, .m 10 2, .o 11 (.call 195 []) [.t 8, .t 9, .t 10], .m 7 11]) <| .seq (.reg [.m 12 7, .o 13 (.call 196 []) [.t 12]]) <| .seq (.reg [.m 14 7, .o 15 (.call 176 []) [.t 14], .o 16 (.call 197 []) [.t 15], .n 17 16, .m 18 7, .n 19 18, .o 20 (.bin .eql 0) [.t 17, .t 19], .m 6 20]) <| .ret
theorem P5 : cFn Tryz.prog JT 21 [.t 6] JU := ⟨Tryz.f137, _, Tryz.func137, rfl, by kernel_rfl, by kernel_rfl, by kernel_rfl, by kernel_rfl⟩
@[simp] abbrev P6 : Nat := 59
def P7 : ACode := .seq (.reg [.o 3 .box [.t 0], .o 6 .mv [.kb false]]) <| .seq (.reg [.la 7 3 3, .m 8 1, .o 9 (.call 121 []) [.t 7, .t 8], .m 10 9, .g 11 (.load true 3) [.t 3] 10 true, .mg 12 2 10 true, .g 13 (.call 122 []) [.t 11, .t 12] 10 true, .o 14 .pick [.t 10, .t 13, .kb false], .m 15 14, .g 16 (.load true 3) [.t 3] 15 true, .mg 17 1 15 true, .mg 18 2 15 true, .g 19 (.call 124 []) [.t 16, .t 17, .t 18] 15 true, .g 20 (.call 123 []) [.t 19] 15 true, .o 21 .pick [.t 15, .t 20, .kb false], .m 6 21]) <| .ret
theorem Wz : cFn Tryz.prog P6 22 [.t 6] P7 := ⟨Tryz.f59, _, Tryz.func59, rfl, by kernel_rfl, by kernel_rfl, by kernel_rfl, by kernel_rfl⟩
@[simp] abbrev P8 : Nat := 98
def P9 : ACode := .seq (.reg [.o 3 .box [.t 0], .o 6 .mv [.kb false]]) <| .seq (.reg [.la 7 3 3, .m 8 1, .o 9 (.call 102 []) [.t 7, .t 8], .m 10 9, .g 11 (.load true 3) [.t 3] 10 true, .mg 12 2 10 true, .g 13 (.call 154 []) [.t 11, .t 12] 10 true, .o 14 .pick [.t 10, .t 13, .kb false], .m 15 14, .g 16 (.load true 3) [.t 3] 15 true, .mg 17 1 15 true, .mg 18 2 15 true, .g 19 (.call 137 []) [.t 16, .t 17, .t 18] 15 true, .o 20 .pick [.t 15, .t 19, .kb false], .m 6 20]) <| .ret
theorem W1 : cFn Tryz.prog P8 21 [.t 6] P9 := ⟨Tryz.f98, _, Tryz.func98, rfl, by kernel_rfl, by kernel_rfl, by kernel_rfl, by kernel_rfl⟩
@[simp] abbrev D7 : Nat := 196
def Gw : ACode := .seq (.reg [.m 3 0, .n 4 3, .m 2 4]) <| .reg [.m 5 0, .m 6 2, .m 7 2, .o 8 (.conv .u64) [.t 7], .o 9 (.call 242 []) [.t 8], .o 10 (.call 241 []) [.t 5, .k 0, .t 6, .t 9]]
theorem Mh : cFn Tryz.prog D7 11 [] Gw := ⟨Tryz.f196, _, Tryz.func196, rfl, by kernel_rfl, by kernel_rfl, by kernel_rfl, by kernel_rfl⟩
@[simp] abbrev OK : Nat := 242
def OL : ACode := .seq (.reg [.o 2 .mv [.k 0]]) <| .seq (.cond (.kb false) ( .seq (.reg [.m 3 0, .o 4 (.conv .u32) [.t 3], .o 5 (.call 273 []) [.t 4], .m 2 5]) <| .ret) ( .skip)) <| .seq (.reg [.m 6 0, .o 7 (.call 260 []) [.t 6], .m 2 7]) <| .ret
theorem VK : cFn Tryz.prog OK 8 [.t 2] OL := ⟨Tryz.f242, _, Tryz.func242, rfl, by kernel_rfl, by kernel_rfl, by kernel_rfl, by kernel_rfl⟩
@[simp] abbrev Lc : Nat := 260
def HE : ACode := .seq (.reg [.o 2 .mv [.k 0]]) <| .seq (.seq (.reg [.m 3 0, .o 4 (.bin .geq 0) [.t 3, .c (.v (.int .u64 (4294967296)))]]) <| .cond (.t 4) ( .seq (.reg [.m 5 0, .o 6 (.bin .shr 0) [.t 5, .c (.v (.int .u64 (32)))], .m 0 6]) <| .reg [.o 2 .mv [.k 32]]) ( .skip)) <| .seq (.seq (.reg [.m 7 0, .o 8 (.bin .geq 0) [.t 7, .c (.v (.int .u64 (65536)))]]) <| .cond (.t 8) ( .seq (.reg [.m 9 0, .o 10 (.bin .shr 0) [.t 9, .c (.v (.int .u64 (16)))], .m 0 10]) <| .reg [.m 11 2, .o 12 (.bin .add 0) [.t 11, .k 16], .m 2 12]) ( .skip)) <| .seq (.seq (.reg [.m 13 0, .o 14 (.bin .geq 0) [.t 13, .c (.v (.int .u64 (256)))]]) <| .cond (.t 14) ( .seq (.reg [.m 15 0, .o 16 (.bin .shr 0) [.t 15, .c (.v (.int .u64 (8)))], .m 0 16]) <| .reg [.m 17 2, .o 18 (.bin .add 0) [.t 17, .k 8], .m 2 18]) ( .skip)) <| .seq (.reg [.m 19 2, .m 20 0, .o 21 (.conv .u8) [.t 20], .o 22 .sidx [.c (.v (.string ⟨#[0, 1, 2, 2, 3, 3, 3, 3, 4, 4, 4, 4, 4, 4, 4, 4, 5, 5, 5, 5, 5, 5, 5, 5, 5, 5, 5, 5, 5, 5, 5, 5, 6, 6, 6, 6, 6, 6, 6, 6, 6, 6, 6, 6, 6, 6, 6, 6, 6, 6, 6, 6, 6, 6, 6, 6, 6, 6, 6, 6, 6, 6, 6, 6, 7, 7, 7, 7, 7, 7, 7, 7, 7, 7, 7, 7, 7, 7, 7, 7, 7, 7, 7, 7, 7, 7, 7, 7, 7, 7, 7, 7, 7, 7, 7, 7, 7, 7, 7, 7, 7, 7, 7, 7, 7, 7, 7, 7, 7, 7, 7, 7, 7, 7, 7, 7, 7, 7, 7, 7, 7, 7, 7, 7, 7, 7, 7, 7, 8, 8, 8, 8, 8, 8, 8, 8, 8, 8, 8, 8, 8, 8, 8, 8, 8, 8, 8, 8, 8, 8, 8, 8, 8, 8, 8, 8, 8, 8, 8, 8, 8, 8, 8, 8, 8, 8, 8, 8, 8, 8, 8, 8, 8, 8, 8, 8, 8, 8, 8, 8, 8, 8, 8, 8, 8, 8, 8, 8, 8, 8, 8, 8, 8, 8, 8, 8, 8, 8, 8, 8, 8, 8, 8, 8, 8, 8, 8, 8, 8, 8, 8, 8, 8, 8, 8, 8, 8, 8, 8, 8, 8, 8, 8, 8, 8, 8, 8, 8, 8, 8, 8, 8, 8, 8, 8, 8, 8, 8, 8, 8, 8, 8, 8, 8, 8, 8, 8, 8, 8, 8, 8, 8, 8, 8, 8, 8]⟩)), .t 21], .o 23 (.conv .i64) [.t 22], .o 24 (.bin .add 0) [.t 19, .t 23], .m 2 24]) <| .ret
theorem SU : cFn Tryz.prog Lc 25 [.t 2] HE := ⟨Tryz.f260, _, Tryz.func260, rfl, by kernel_rfl, by kernel_rfl, by kernel_rfl, by kernel_rfl⟩
@[simp] abbrev D8 : Nat := 241
abbrev CR : Plan := .al (.g 85 (.call 270 []) [.t 80, .t 84] 75 true) ( .take (.g 86 (.un .not) [.t 85] 75 true) <| .take (.o 87 .pick [.t 75, .t 86, .kb false]) <| .done)
def DA : ACode := .block 1 ( .seq (.reg [.m 19 2, .m 20 1, .o 21 (.bin .sub 0) [.t 19, .t 20], .m 10 21]) <| .seq (.seq (.reg [.m 22 10, .o 23 (.bin .leq 0) [.t 22, .k 12]]) <| .cond (.t 23) ( .seq (.reg [.m 24 0, .m 25 1, .m 26 2, .o 27 (.call 264 []) [.t 24, .t 25, .t 26]]) <| .ret) ( .skip)) <| .seq (.seq (.reg [.m 28 3, .o 29 (.bin .eql 0) [.t 28, .k 0]]) <| .cond (.t 29) ( .seq (.reg [.m 30 0, .m 31 1, .m 32 2, .o 33 (.call 265 []) [.t 30, .t 31, .t 32]]) <| .ret) ( .skip)) <| .seq (.seq (.reg [.m 34 8, .o 35 (.un .not) [.t 34]]) <| .cond (.t 35) ( .seq (.reg [.m 36 0, .m 37 1, .m 38 2, .o 39 (.call 266 []) [.t 36, .t 37, .t 38]]) <| .reg [.m 40 3, .o 41 (.bin .sub 0) [.t 40, .k 1], .m 3 41]) ( .skip)) <| .seq (.reg [.m 43 0, .m 44 1, .m 45 2, .o 46 (.call 267 []) [.t 43, .t 44, .t 45], .m 42 46, .e 47 0 42, .e 48 1 42, .m 11 47, .m 12 48]) <| .seq (.seq (.reg [.m 49 12, .o 50 (.bin .eql 0) [.t 49, .k 2]]) <| .cond (.t 50) ( .seq (.reg [.m 51 0, .m 52 1, .m 53 2, .o 54 (.call 268 []) [.t 51, .t 52, .t 53]]) <| .seq (.reg [.m 55 2, .o 56 (.bin .sub 0) [.t 55, .k 1], .m 57 11, .m 58 1, .o 59 (.bin .sub 0) [.t 57, .t 58], .o 60 (.bin .sub 0) [.t 56, .t 59], .m 11 60]) <| .reg [.o 12 .mv [.k 1]]) ( .skip)) <| .seq (.seq (.reg [.m 61 8, .m 62 61, .mg 63 9 62 true, .o 64 .pick [.t 62, .t 63, .kb false], .m 65 64, .mg 66 12 65 true, .g 67 (.bin .eql 0) [.t 66, .k 1] 65 true, .o 68 .pick [.t 65, .t 67, .kb false]]) <| .cond (.t 68) ( .seq (.reg [.m 69 0, .m 70 1, .m 71 2, .o 72 (.call 269 []) [.t 69, .t 70, .t 71]]) <| .cond (.t 72) ( .ret) ( .skip)) ( .skip)) <| .seq (.seq (.draw ( .take (.m 73 1) <| .take (.o 74 (.bin .gtr 0) [.t 73, .k 0]) <| .take (.m 75 74) <| .take (.mg 76 0 75 true) <| .take (.mg 77 1 75 true) <| .take (.g 78 (.bin .sub 0) [.t 77, .k 1] 75 true) <| .take (.g 79 (.iadr 1) [.t 76, .t 78] 75 true) <| .take (.mg 81 0 75 true) <| .take (.mg 82 11 75 true) <| .take (.g 83 (.iadr 1) [.t 81, .t 82] 75 true) <| .alt (.lg 80 79 75 true) ( .al (.lg 84 83 75 true) CR) <| .al (.lg 84 83 75 true) ( .al (.lg 80 79 75 true) CR))) <| .cond (.t 87) ( .seq (.reg [.m 88 0, .m 89 1, .m 90 2, .m 91 11, .o 92 (.call 271 []) [.t 88, .t 89, .t 90, .t 91], .m 13 92]) <| .seq (.reg [.m 93 13, .m 1 93]) <| .exit 1) ( .skip)) <| .seq (.reg [.m 95 0, .m 96 1, .m 97 2, .m 98 11, .o 99 (.call 272 []) [.t 95, .t 96, .t 97, .t 98], .m 94 99, .e 100 0 94, .e 101 1 94, .m 14 100, .m 15 101]) <| .seq (.reg [.m 102 15, .m 9 102]) <| .seq (.reg [.m 103 14, .m 104 1, .o 105 (.bin .sub 0) [.t 103, .t 104], .m 106 2, .m 107 14, .o 108 (.bin .sub 0) [.t 106, .t 107], .m 16 105, .m 17 108]) <| .seq (.reg [.m 109 10, .o 110 (.bin .quo 0) [.t 109, .k 8], .m 18 110]) <| .seq (.reg [.m 111 16, .m 112 17, .o 113 (.bin .lss 0) [.t 111, .t 112]]) <| .cond (.t 113) ( .seq (.reg [.m 114 16, .m 115 18, .o 116 (.bin .geq 0) [.t 114, .t 115], .m 8 116]) <| .seq (.reg [.m 117 0, .m 118 1, .m 119 14, .m 120 3, .o 121 (.call 241 []) [.t 117, .t 118, .t 119, .t 120]]) <| .reg [.m 122 14, .o 123 (.bin .add 0) [.t 122, .k 1], .m 1 123]) ( .seq (.reg [.m 124 17, .m 125 18, .o 126 (.bin .geq 0) [.t 124, .t 125], .m 8 126]) <| .seq (.reg [.m 127 0, .m 128 14, .o 129 (.bin .add 0) [.t 128, .k 1], .m 130 2, .m 131 3, .o 132 (.call 241 []) [.t 127, .t 129, .t 130, .t 131]]) <| .reg [.m 133 14, .m 2 133]))
def D9 : ACode := .seq (.reg [.o 8 .mv [.kb true]]) <| .seq (.reg [.o 9 .mv [.kb true]]) <| .block 0 ( .loop [(0, 1)] [0, 1, 2, 3, 8, 9] DA)
theorem IE : cFn Tryz.prog D8 134 [] D9 := ⟨Tryz.f241, _, Tryz.func241, rfl, by kernel_rfl, by kernel_rfl, by kernel_rfl, by kernel_rfl⟩
@[simp] abbrev CS : Nat := 264
abbrev Bc : Plan := .take (.o 47 (.iadr 1) [.t 33, .t 34]) <| .al (.s (.store 1) [.t 47, .t 42]) ( .take (.o 48 (.iadr 1) [.t 35, .t 37]) <| .al (.s (.store 1) [.t 48, .t 46]) ( .done))
abbrev Bd : Plan := .al (.g 29 (.call 270 []) [.t 23, .t 28] 19 true) ( .take (.o 30 .pick [.t 19, .t 29, .kb false]) <| .done)
def Er : ACode := .seq (.seq (.draw ( .take (.m 16 7) <| .take (.m 17 1) <| .take (.o 18 (.bin .gtr 0) [.t 16, .t 17]) <| .take (.m 19 18) <| .take (.mg 20 0 19 true) <| .take (.mg 21 7 19 true) <| .take (.g 22 (.iadr 1) [.t 20, .t 21] 19 true) <| .take (.mg 24 0 19 true) <| .take (.mg 25 7 19 true) <| .take (.g 26 (.bin .sub 0) [.t 25, .k 1] 19 true) <| .take (.g 27 (.iadr 1) [.t 24, .t 26] 19 true) <| .alt (.lg 23 22 19 true) ( .al (.lg 28 27 19 true) Bd) <| .al (.lg 28 27 19 true) ( .al (.lg 23 22 19 true) Bd))) <| .cond (.t 30) ( .skip) ( .exit 2)) <| .seq (.block 3 ( .draw ( .take (.m 33 0) <| .take (.m 34 7) <| .take (.m 35 0) <| .take (.m 36 7) <| .take (.o 37 (.bin .sub 0) [.t 36, .k 1]) <| .take (.m 38 0) <| .take (.m 39 7) <| .take (.o 40 (.bin .sub 0) [.t 39, .k 1]) <| .take (.o 41 (.iadr 1) [.t 38, .t 40]) <| .take (.m 43 0) <| .take (.m 44 7) <| .take (.o 45 (.iadr 1) [.t 43, .t 44]) <| .alt (.l 42 41) ( .al (.l 46 45) Bc) <| .al (.l 46 45) ( .al (.l 42 41) Bc)))) <| .reg [.m 31 7, .o 32 (.bin .sub 0) [.t 31, .k 1], .m 7 32]
def B4 : ACode := .seq (.seq (.reg [.m 10 6, .m 11 2, .o 12 (.bin .lss 0) [.t 10, .t 11]]) <| .cond (.t 12) ( .skip) ( .exit 0)) <| .seq (.block 1 ( .seq (.reg [.m 15 6, .m 7 15]) <| .block 2 ( .loop [(0, 1)] [0, 1, 2, 6, 7] Er))) <| .reg [.m 13 6, .o 14 (.bin .add 0) [.t 13, .k 1], .m 6 14]
def CT : ACode := .seq (.reg [.m 8 1, .o 9 (.bin .add 0) [.t 8, .k 1], .m 6 9]) <| .block 0 ( .loop [(0, 1)] [0, 1, 2, 6] B4)
theorem FZ : cFn Tryz.prog CS 49 [] CT := ⟨Tryz.f264, _, Tryz.func264, rfl, by kernel_rfl, by kernel_rfl, by kernel_rfl, by kernel_rfl⟩
theorem JV (xs : List Int) (hx : xs.length < 2 ^ 40) : SoundAt Tryz.prog F6 [.sl 1 1 (AB xs)] (.os 1 (AB xs)) [.bot] := by
 refine AE (md := md0) (ms := [false]) MC (by simp) ?_
 simp [F7]
 refine ⟨fun h => by omega, fun h => ?_⟩
 subst h
 simp
theorem Ag (xs : List Int) (hx : xs.length < 2 ^ 40) : SoundAt Tryz.prog La [.sl 1 1 (AB xs)] (.os 1 (AB xs)) [.bot] := by
 refine AE (md := md0) (ms := [false]) ST (by simp) ?_
 simp [Lb]
 refine AA (JV xs hx) ?_
 simp
 refine AA (D4 xs) ?_
 simp
theorem YS (xs : List Int) (n : Int) (hx : xs.length < 2 ^ 40) : SoundAt Tryz.prog R8 [.sl 1 1 (AB xs), .v (.int .i64 n)] (.v (.bool (decide (n ∈ xs)))) [.bot, .bot] := by
 refine AE (md := md0) (ms := [false, false]) YR (by simp) ?_
 simp [R9]
 refine AF (fun m E H => ∃ i : Nat, m = xs.length - i ∧ i ≤ xs.length ∧ ¬ n ∈ xs.take i ∧ H = [] ∧ E = [(0, .sl 1 1 (AB xs)), (1, .v (.int .i64 n)), (5, .v (.int .i64 i))]) xs.length ⟨0, by simp⟩ ?_
 rintro J hJ m E H ⟨i, rfl, hi, hn, rfl, rfl⟩
 by_cases h : i < xs.length
 ·have e : ati xs i = xs[i] := by simp [ati, h]
  simp [ID, h]
  refine ⟨fun he => ?_, fun he => ⟨by omega, _, by omega, hJ _ _ _ ⟨i + 1, rfl, h, ?_, rfl, rfl⟩⟩⟩
  ·rw [← he, e]; exact List.getElem_mem h
  ·rw [List.take_succ_eq_append_getElem h, ← e]
   simp [hn, Ne.symm he]
 ·have : i = xs.length := by omega
  subst this
  rw [List.take_length] at hn
  simp [ID, hn]
theorem W3 (xs : List Int) (hx : xs.length < 2 ^ 40) : SoundAt Tryz.prog P3 [.sl 1 1 (AB xs)] (.v (.bool (KP xs))) [.bot] := by
 refine AE (md := md0) (ms := [false]) Wy (by simp) ?_
 simp [P4]
 refine AF (fun m E H => ∃ i : Nat, m = xs.length - i ∧ i ≤ xs.length ∧ (xs.take i).Nodup ∧ H = [] ∧ E = [(0, .sl 1 1 (AB xs)), (3, .v (.int .i64 i))]) xs.length ⟨0, by simp⟩ ?_
 rintro J hJ m E H ⟨i, rfl, hi, hn, rfl, rfl⟩
 by_cases h : i < xs.length
 ·have e := U8 xs i h
  have hle : i ≤ xs.length := hi
  simp [HD, h, hle, Em]
  refine AA (YS (xs.take i) (ati xs i) (by simp; omega)) ?_
  simp [Em]
  refine ⟨fun he => ?_, fun he => ⟨by omega, _, by omega, hJ _ _ _ ⟨i + 1, rfl, h, e.2 ⟨hn, he⟩, rfl, rfl⟩⟩⟩
  simp only [KP, decide_eq_false_iff_not]
  intro hnd
  exact (e.1 ((List.take_sublist (i + 1) xs).nodup hnd)).2 he
 ·have : i = xs.length := by omega
  subst this
  rw [List.take_length] at hn
  simp [HD, KP, hn]
end Go.Proofs.Dev
namespace Go.Proofs
open Go.Shelf
set_option maxRecDepth 1000000
def Tryz.lays189_ren : Go.Shelf.Ren := ⟨fun | 189 => 196 | 125 => 242 | 257 => 241 | 128 => 273 | 129 => 260 | 294 => 264 | 295 => 265 | 296 => 266 | 297 => 267 | 298 => 268 | 299 => 269 | 216 => 270 | 300 => 271 | 301 => 272 | 328 => 281 | 329 => 282 | 330 => 283 | 331 => 284 | 332 => 285 | 215 => 286 | 343 => 288 | n => n, fun | 28 => 35 | 3 => 3 | 46 => 177 | 0 => 0 | 51 => 207 | 53 => 189 | 4 => 4 | 183 => 224 | 182 => 223 | 131 => 228 | 5 => 5 | 9 => 9 | 218 => 236 | 222 => 240 | 228 => 249 | 229 => 110 | n => n, fun | n => n⟩
theorem Tryz.lays189 : Go.Proofs.Lays.n189 Tryz.prog Tryz.lays189_ren := {
 mixed := by kernel_rfl
 f125 := Tryz.func242.trans (congrArg some (by kernel_rfl))
 f128 := Tryz.func273.trans (congrArg some (by kernel_rfl))
 f129 := Tryz.func260.trans (congrArg some (by kernel_rfl))
 f189 := Tryz.func196.trans (congrArg some (by kernel_rfl))
 f215 := Tryz.func286.trans (congrArg some (by kernel_rfl))
 f216 := Tryz.func270.trans (congrArg some (by kernel_rfl))
 f257 := Tryz.func241.trans (congrArg some (by kernel_rfl))
 f294 := Tryz.func264.trans (congrArg some (by kernel_rfl))
 f295 := Tryz.func265.trans (congrArg some (by kernel_rfl))
 f296 := Tryz.func266.trans (congrArg some (by kernel_rfl))
 f297 := Tryz.func267.trans (congrArg some (by kernel_rfl))
 f298 := Tryz.func268.trans (congrArg some (by kernel_rfl))
 f299 := Tryz.func269.trans (congrArg some (by kernel_rfl))
 f300 := Tryz.func271.trans (congrArg some (by kernel_rfl))
 f301 := Tryz.func272.trans (congrArg some (by kernel_rfl))
 f328 := Tryz.func281.trans (congrArg some (by kernel_rfl))
 f329 := Tryz.func282.trans (congrArg some (by kernel_rfl))
 f330 := Tryz.func283.trans (congrArg some (by kernel_rfl))
 f331 := Tryz.func284.trans (congrArg some (by kernel_rfl))
 f332 := Tryz.func285.trans (congrArg some (by kernel_rfl))
 f343 := Tryz.func288.trans (congrArg some (by kernel_rfl))
 t0 := Tryz.underlying0
 a0 := Tryz.isAgg0
 z0 := Tryz.sizeOf0
 v0 := Tryz.zeroValue0
 t3 := Tryz.underlying3
 a3 := Tryz.isAgg3
 z3 := Tryz.sizeOf3
 v3 := Tryz.zeroValue3
 t4 := Tryz.underlying4
 a4 := Tryz.isAgg4
 z4 := Tryz.sizeOf4
 v4 := Tryz.zeroValue4
 t5 := Tryz.underlying5
 a5 := Tryz.isAgg5
 z5 := Tryz.sizeOf5
 v5 := Tryz.zeroValue5
 t9 := Tryz.underlying9
 a9 := Tryz.isAgg9
 z9 := Tryz.sizeOf9
 v9 := Tryz.zeroValue9
 t28 := Tryz.underlying35
 a28 := Tryz.isAgg35
 z28 := Tryz.sizeOf35
 v28 := Tryz.zeroValue35
 t46 := Tryz.underlying177
 a46 := Tryz.isAgg177
 z46 := Tryz.sizeOf177
 v46 := Tryz.zeroValue177
 t51 := Tryz.underlying207
 a51 := Tryz.isAgg207
 z51 := Tryz.sizeOf207
 v51 := Tryz.zeroValue207
 t53 := Tryz.underlying189
 a53 := Tryz.isAgg189
 z53 := Tryz.sizeOf189
 v53 := Tryz.zeroValue189
 t131 := Tryz.underlying228
 a131 := Tryz.isAgg228
 z131 := Tryz.sizeOf228
 v131 := Tryz.zeroValue228
 t182 := Tryz.underlying223
 a182 := Tryz.isAgg223
 z182 := Tryz.sizeOf223
 v182 := Tryz.zeroValue223
 t183 := Tryz.underlying224
 a183 := Tryz.isAgg224
 z183 := Tryz.sizeOf224
 v183 := Tryz.zeroValue224
 t218 := Tryz.underlying236
 a218 := Tryz.isAgg236
 z218 := Tryz.sizeOf236
 v218 := Tryz.zeroValue236
 t222 := Tryz.underlying240
 a222 := Tryz.isAgg240
 z222 := Tryz.sizeOf240
 v222 := Tryz.zeroValue240
 t228 := Tryz.underlying249
 a228 := Tryz.isAgg249
 z228 := Tryz.sizeOf249
 v228 := Tryz.zeroValue249
 t229 := Tryz.underlying110
 a229 := Tryz.isAgg110
 z229 := Tryz.sizeOf110
 v229 := Tryz.zeroValue110 }
open Go.Sort Go.RowKit in
theorem Tryz.slices_Sort_int (blk off cap : Nat) (zs : List Int) (w : World) (hH : Holds (Value.int .i64) w blk off zs.toArray) (hblk : blk < w.heap.size) (hsz : zs.length < 4611686018427387904) :
  Calls Tryz.prog 196 #[.slice (some ⟨blk, off, none⟩) zs.length cap] w fun e w' =>
   e = .returned (.tuple #[]) ∧ ∃ n os, w' = grow (putRow (Value.int .i64) (Sort.ahead w n) blk off (zs.mergeSort fun x y => decide (x ≤ y)).toArray) os := Any.slices_Sort_int Tryz.lays189 blk off cap zs w hH hblk hsz
def Tryz.laysNm220_ren : Go.Shelf.Ren := ⟨fun | 20 => 197 | n => n, fun | 22 => 35 | 3 => 3 | 4 => 4 | 0 => 0 | n => n, fun | n => n⟩
theorem Tryz.laysNm220 : Go.Proofs.Lays2.n20 Tryz.prog Tryz.laysNm220_ren := {
 mixed := by kernel_rfl
 f20 := Tryz.func197.trans (congrArg some (by kernel_rfl))
 t0 := Tryz.underlying0
 a0 := Tryz.isAgg0
 z0 := Tryz.sizeOf0
 v0 := Tryz.zeroValue0
 t3 := Tryz.underlying3
 a3 := Tryz.isAgg3
 z3 := Tryz.sizeOf3
 v3 := Tryz.zeroValue3
 t4 := Tryz.underlying4
 a4 := Tryz.isAgg4
 z4 := Tryz.sizeOf4
 v4 := Tryz.zeroValue4
 t22 := Tryz.underlying35
 a22 := Tryz.isAgg35
 z22 := Tryz.sizeOf35
 v22 := Tryz.zeroValue35
 i3 := by kernel_rfl }
open Go.RowKit Go.Lib Go.Sort in
theorem Tryz.slices_Compact_int (blk off cap : Nat) (zs : List Int) (w : World) (hH : Holds (Value.int .i64) w blk off zs.toArray) (hsz : zs.length ≤ 9223372036854775807) (hcap : zs.length ≤ cap) :
  Calls Tryz.prog 197 #[.slice (some ⟨blk, off, none⟩) zs.length cap] w fun e w' => e = .returned (.slice (some ⟨blk, off, none⟩) (Lib.compact zs).length cap) ∧ ∃ q, w' = putRow (Value.int .i64) (Sort.ahead w q) blk off (Lib.compact zs ++ List.replicate (zs.length - (Lib.compact zs).length) 0).toArray := Any.slices_Compact_int Tryz.laysNm220 blk off cap zs w hH hsz hcap
open Go.RowKit Go.Lib Go.Sort in
theorem Tryz.slices_Compact_int_empty (a : Option Addr) (cap : Nat) (w : World) :
  Calls Tryz.prog 197 #[.slice a 0 cap] w fun e w' => e = .returned (.slice a 0 cap) ∧ w' = w := Any.slices_Compact_int_empty Tryz.laysNm220 a cap w
end Go.Proofs
namespace Go.Proofs.Dev
theorem RS : SoundAt Tryz.prog Lc [.v (.int .u64 0)] (.v (.int .i64 0)) [.bot] := by
 refine AE (md := md0) (ms := [false]) SU (by simp) ?_
 first
 | (simp [HE]; done)
 | (simp [HE]; show Da _ _ _ (some (AV.v (.int .u8 0), [])); simp; done)
theorem T7 : SoundAt Tryz.prog OK [.v (.int .u64 0)] (.v (.int .i64 0)) [.bot] := by
 refine AE (md := md0) (ms := [false]) VK (by simp) ?_
 simp [OL]
 refine AA RS ?_
 simp
theorem T8 : SoundAt Tryz.prog CS [.sl 1 1 [], .v (.int .i64 0), .v (.int .i64 0)] (.tup []) [.bot, .bot, .bot] := by
 refine AE (md := md0) (ms := [false, false, false]) FZ (by simp) ?_
 simp [CT]
 refine AF (fun m E H => m = 0 ∧ H = [] ∧ E = [(0, .sl 1 1 []), (1, .v (.int .i64 0)), (2, .v (.int .i64 0)), (6, .v (.int .i64 1))]) 0 ⟨rfl, rfl, rfl⟩ ?_
 rintro J hJ m E H ⟨rfl, rfl, rfl⟩
 simp [B4]
theorem W4 : SoundAt Tryz.prog D8 [.sl 1 1 [], .v (.int .i64 0), .v (.int .i64 0), .v (.int .i64 0)] (.tup []) [.bot, .bot, .bot, .bot] := by
 refine AE (md := md0) (ms := [false, false, false, false]) IE (by simp) ?_
 simp [D9]
 refine AF (fun m E H => m = 0 ∧ H = [] ∧ E = [(0, .sl 1 1 []), (1, .v (.int .i64 0)), (2, .v (.int .i64 0)), (3, .v (.int .i64 0)), (8, .v (.bool true)), (9, .v (.bool true))]) 0 ⟨rfl, rfl, rfl⟩ ?_
 rintro J hJ m E H ⟨rfl, rfl, rfl⟩
 simp [DA]
 refine AA T8 ?_
 simp
theorem RT : SoundAt Tryz.prog D7 [.os 1 []] (.tup []) [.os 1 []] := by
 refine AE (md := md0) (ms := [true]) Mh (by simp) ?_
 simp [Gw]
 refine AA T7 ?_
 simp
 refine AA W4 ?_
 simp
theorem W5 (xs : List Int) (hx : xs.length < 2 ^ 40) : SoundAt Tryz.prog D7 [.os 1 (AB xs)] (.tup []) [.os 1 (AB (srt xs))] := by
 by_cases hz : xs = []
 ·subst hz
  have : srt [] = [] := List.eq_nil_of_length_eq_zero (by rw [Nk]; rfl)
  rw [this]
  exact RT
 ·refine ci (Nk xs) hz fun blk off cap w hH hb => ?_
  exact Tryz.slices_Sort_int blk off cap xs w hH hb (by omega)
theorem SV (xs : List Int) (hx : xs.length < 2 ^ 40) : SoundAt Tryz.prog 197 [.os 1 (AB xs)] (.os 1 (AB (Lib.compact xs))) [.bot] := by
 by_cases hz : xs = []
 ·subst hz
  have hc : Lib.compact ([] : List Int) = [] := List.eq_nil_of_length_eq_zero (by have := V8 []; simpa using this)
  rw [hc]
  intro w forb us S hr hnd hlt hforb
  have hr0 := hr
  rw [RL] at hr
  obtain ⟨S1, S2, u, us', hS, rfl, h1, h2⟩ := hr
  rw [RL] at h2
  obtain ⟨rfl, rfl⟩ := h2
  rw [List.append_nil] at hS
  subst hS
  have h1' := h1
  rw [R] at h1'
  obtain ⟨a, cap, rfl, hc, _⟩ := h1'
  refine (Tryz.slices_Compact_int_empty a cap w).mono ?_
  rintro e w' ⟨rfl, rfl⟩
  refine ⟨_, S, rfl, ?_, hnd, fun x hx => ⟨hlt x hx, .inr hx⟩, Kept.refl _ _ _⟩
  rw [RL]
  refine ⟨S, [], _, _, by simp, rfl, ?_, by rw [RL]; exact ⟨[], [], _, _, rfl, rfl, by rw [R], by rw [RL]; exact ⟨rfl, rfl⟩⟩⟩
  rw [R] at h1 ⊢
  exact h1
 ·refine fV (rest := List.replicate (xs.length - (Lib.compact xs).length) 0) (by have := V8 xs; simp; omega) hz fun blk off cap w hH hb hcap => ?_
  exact Tryz.slices_Compact_int blk off cap xs w hH (by omega) hcap
theorem Dk (W T : Int) (cs : List Bool) (ds ls : List Int) (hok : okB W T cs ds ls = true) :
  SoundAt Tryz.prog JT [.agg [.v (.int .i64 W), .v (.int .i64 T), .sl 1 1 (AC cs)], .sl 1 1 (AB ds), .sl 1 1 (AB ls)] (.v (.bool (KP (B3 W T ds ls)))) [.bot, .bot, .bot] := by
 refine AE (md := md0) (ms := [false, false, false]) P5 (by simp) ?_
 obtain ⟨hr, e1, e2, _⟩ := Mg hok
 have hl36 := AZ hr
 have hlen := En W T ds ls ls.length
 have hb : (B3 W T ds ls).length ≤ 36 := by unfold B3; omega
 simp [JU]
 refine AA (O4 W T cs ds ls hok) ?_
 generalize B3 W T ds ls = xs at *
 have hsl := Nk xs
 have ht : (srt xs).take xs.length = srt xs := List.take_of_length_le (by omega)
 simp
 refine AA (W5 xs (by omega)) ?_
 simp [hsl]
 refine AA (JV (srt xs) (by omega)) ?_
 simp [hsl, Em, ht]
 refine AA (SV (srt xs) (by omega)) ?_
 simp [hsl, KP]
 have ho := ZF xs
 rw [Bool.eq_iff_iff]
 simp only [beq_iff_eq, decide_eq_true_eq]
 rw [← ho]
 omega
def Af (W T : Int) (cs : List Bool) (ds ls : List Int) : Bool := okB W T cs ds ls && KP (B3 W T ds ls)
theorem BW (W T : Int) (cs : List Bool) (ds ls : List Int) (hb : cs.length < 2 ^ 40) (hd : ds.length < 2 ^ 40) (hl : ls.length < 2 ^ 40) :
  SoundAt Tryz.prog P6 [.agg [.v (.int .i64 W), .v (.int .i64 T), .sl 1 1 (AC cs)], .sl 1 1 (AB ds), .sl 1 1 (AB ls)] (.v (.bool (Af W T cs ds ls))) [.bot, .bot, .bot] := by
 refine AE (md := md0) (ms := [false, false, false]) Wz (by simp) ?_
 simp [P7]
 refine AA (CP W T cs ds hb hd) ?_
 cases hp : (A0 W T cs && Cg cs ds) with
 | false =>
   have hn : okB W T cs ds ls = false := by simp only [okB, ← Bool.and_assoc, hp, Bool.false_and]
   simp [Af, hn]
 | true =>
 simp
 refine AA (BV W T cs ls hb hl) ?_
 cases hp2 : (A0 W T cs && AO W T cs ls) with
 | false =>
   have hn : okB W T cs ds ls = false := by
    simp only [Bool.and_eq_true] at hp
    rw [hp.1, Bool.true_and] at hp2
    simp [okB, hp2]
   simp [Af, hn]
 | true =>
 have hok : okB W T cs ds ls = true := by
  simp only [Bool.and_eq_true] at hp hp2
  simp [okB, hp, hp2]
 have hlen := En W T ds ls ls.length
 have hb' : (B3 W T ds ls).length ≤ ls.length := by unfold B3; omega
 simp
 refine AA (VJ W T cs ds ls hb hd hl) ?_
 simp [hok]
 refine AA (W3 (B3 W T ds ls) (by omega)) ?_
 simp [Af, hok]
theorem Hf (W T : Int) (cs : List Bool) (ds ls : List Int) (hb : cs.length < 2 ^ 40) (hd : ds.length < 2 ^ 40) (hl : ls.length < 2 ^ 40) :
  SoundAt Tryz.prog P8 [.agg [.v (.int .i64 W), .v (.int .i64 T), .sl 1 1 (AC cs)], .sl 1 1 (AB ds), .sl 1 1 (AB ls)] (.v (.bool (Af W T cs ds ls))) [.bot, .bot, .bot] := by
 refine AE (md := md0) (ms := [false, false, false]) W1 (by simp) ?_
 simp [P9]
 refine AA (JR W T cs ds hb hd) ?_
 cases hp : (A0 W T cs && Cg cs ds) with
 | false =>
   have hn : okB W T cs ds ls = false := by simp only [okB, ← Bool.and_assoc, hp, Bool.false_and]
   simp [Af, hn]
 | true =>
 simp only [Bool.and_eq_true] at hp
 simp
 refine AA (JS W T cs ls hp.1 hl) ?_
 cases hp2 : AO W T cs ls with
 | false =>
   have hn : okB W T cs ds ls = false := by simp [okB, hp2]
   simp [Af, hn]
 | true =>
 have hok : okB W T cs ds ls = true := by simp [okB, hp, hp2]
 simp
 refine AA (Dk W T cs ds ls hok) ?_
 simp [Af, hok]
@[simp] abbrev Mi : Nat := 204
def Dl : ACode := .seq (.seq (.reg [.m 10 5, .m 11 1, .n 12 11, .o 13 (.bin .lss 0) [.t 10, .t 12]]) <| .cond (.t 13) ( .skip) ( .exit 0)) <| .seq (.block 1 ( .seq (.reg [.f 16 2 2, .l 17 16, .m 18 5, .o 19 (.iadr 1) [.t 17, .t 18], .l 20 19, .m 21 20, .mg 22 1 21 true, .mg 23 5 21 true, .g 24 (.iadr 1) [.t 22, .t 23] 21 true, .lg 25 24 21 true, .g 26 (.bin .eql 0) [.t 25, .k 0] 21 true, .o 27 .pick [.t 21, .t 26, .kb false]]) <| .cond (.t 27) ( .seq (.reg [.o 4 .mv [.kb false]]) <| .ret) ( .skip))) <| .reg [.m 14 5, .o 15 (.bin .add 0) [.t 14, .k 1], .m 5 15]
def Mj : ACode := .seq (.reg [.o 2 .box [.t 0], .o 4 .mv [.kb false]]) <| .seq (.seq (.reg [.la 6 3 2, .m 7 1, .o 8 (.call 122 []) [.t 6, .t 7], .o 9 (.un .not) [.t 8]]) <| .cond (.t 9) ( .seq (.reg [.o 4 .mv [.kb false]]) <| .ret) ( .skip)) <| .seq (.seq (.reg [.o 5 .mv [.k 0]]) <| .block 0 ( .loop [(1, 1)] [1, 2, 5] Dl)) <| .seq (.reg [.o 4 .mv [.kb true]]) <| .ret
theorem T9 : cFn Tryz.prog Mi 28 [.t 4] Mj := ⟨Tryz.f204, _, Tryz.func204, rfl, by kernel_rfl, by kernel_rfl, by kernel_rfl, by kernel_rfl⟩
@[simp] abbrev JW : Nat := 101
def CU : ACode := .seq (.reg [.o 11 (.bin .lss 0) [.t 10, .t 9]]) <| .seq (.cond (.t 11) ( .skip) ( .exit 0)) <| .seq (.block 1 ( .seq (.reg [.m 12 10, .o 13 (.iadr 1) [.t 8, .t 10], .l 14 13, .m 5 12, .m 6 14]) <| .seq (.reg [.m 15 6, .m 16 15, .mg 17 1 16 true, .mg 18 5 16 true, .g 19 (.iadr 1) [.t 17, .t 18] 16 true, .lg 20 19 16 true, .g 21 (.bin .eql 0) [.t 20, .k 0] 16 true, .o 22 .pick [.t 16, .t 21, .kb false]]) <| .cond (.t 22) ( .seq (.reg [.o 4 .mv [.kb false]]) <| .ret) ( .skip))) <| .reg [.o 23 (.bin .add 0) [.t 10, .k 1], .m 10 23]
def JX : ACode := .seq (.reg [.o 2 .box [.t 0], .o 4 .mv [.kb false]]) <| .seq (.seq (.reg [.f 7 2 2, .l 8 7, .n 9 8, .o 10 .mv [.k 0]]) <| .block 0 ( .loop [(1, 1), (8, 1)] [1, 8, 9, 10] CU)) <| .seq (.reg [.o 4 .mv [.kb true]]) <| .ret
theorem QA : cFn Tryz.prog JW 24 [.t 4] JX := ⟨Tryz.f101, _, Tryz.func101, rfl, by kernel_rfl, by kernel_rfl, by kernel_rfl, by kernel_rfl⟩
@[simp] abbrev Mk : Nat := 148
def Ml : ACode := .seq (.reg [.o 3 .box [.t 0], .o 6 .mv [.kb false]]) <| .seq (.reg [.la 7 3 3, .m 8 2, .o 9 (.call 204 []) [.t 7, .t 8], .m 10 9, .g 11 (.load true 3) [.t 3] 10 true, .mg 12 1 10 true, .mg 13 2 10 true, .g 14 (.call 59 []) [.t 11, .t 12, .t 13] 10 true, .o 15 .pick [.t 10, .t 14, .kb false], .m 6 15]) <| .ret
theorem UA : cFn Tryz.prog Mk 16 [.t 6] Ml := ⟨Tryz.f148, _, Tryz.func148, rfl, by kernel_rfl, by kernel_rfl, by kernel_rfl, by kernel_rfl⟩
def IG (cs : List Bool) (ls : List Int) (k : Int) : Bool := !(atb cs k && decide (ati ls k = 0))
def J7 (cs : List Bool) (ls : List Int) : Bool := U6 cs.length (fun k => IG cs ls k)
def Cx (W T : Int) (cs : List Bool) (ds ls : List Int) : Bool := Af W T cs ds ls && J7 cs ls
theorem UB (W T : Int) (cs : List Bool) (ls : List Int) (hb : cs.length < 2 ^ 40) (hd : ls.length < 2 ^ 40) :
  SoundAt Tryz.prog Mi [.agg [.v (.int .i64 W), .v (.int .i64 T), .sl 1 1 (AC cs)], .sl 1 1 (AB ls)] (.v (.bool (A0 W T cs && AO W T cs ls && J7 cs ls))) [.bot, .bot] := by
 refine AE (md := md0) (ms := [false, false]) T9 (by simp) ?_
 simp [Mj]
 refine AA (BV W T cs ls hb hd) ?_
 cases hp : (A0 W T cs && AO W T cs ls) with
 | false => simp
 | true =>
 have hl' : ls.length = cs.length := by
  simp only [AO, Bool.and_eq_true, decide_eq_true_eq] at hp
  exact hp.2.1
 simp
 refine AF (fun m E H => ∃ i : Nat, m = ls.length - i ∧ i ≤ ls.length ∧ U6 i (fun k => IG cs ls k) = true ∧ H = [some (.box [.v (.int .i64 W), .v (.int .i64 T), .sl 1 1 (AC cs)])] ∧ E = [(1, .sl 1 1 (AB ls)), (2, .lp 0 0 0 0), (5, .v (.int .i64 i))]) ls.length ⟨0, by simp [Gs]⟩ ?_
 rintro J hJ m E H ⟨i, rfl, hi, ha, rfl, rfl⟩
 by_cases h : i < ls.length
 ·have h2 : i < cs.length := by omega
  have next : IG cs ls i = true → C6 J (ls.length - i) [(1, .sl 1 1 (AB ls)), (2, .lp 0 0 0 0), (5, .v (.int .i64 (i + 1)))] [some (.box [.v (.int .i64 W), .v (.int .i64 T), .sl 1 1 (AC cs)])] :=
   fun hd => ⟨_, by omega, hJ _ _ _ ⟨i + 1, rfl, h, by rw [Gt, ha, hd]; rfl, rfl, rfl⟩⟩
  have stop : IG cs ls i = false → J7 cs ls = false := fun hd => GQ h2 hd
  cases hc : atb cs i with
  | false =>
    simp [Dl, h, h2, hc]
    exact ⟨by omega, next (by simp [IG, hc])⟩
  | true =>
    simp [Dl, h, h2, hc]
    exact ⟨fun e => stop (by simp [IG, hc, e]), fun e => ⟨by omega, next (by simp [IG, hc, e])⟩⟩
 ·have : i = ls.length := by omega
  subst this
  simp [Dl]
  rw [hl'] at ha
  simpa [J7] using ha
theorem QB (W T : Int) (cs : List Bool) (ls : List Int) (hb : cs.length < 2 ^ 40) (hl' : ls.length = cs.length) :
  SoundAt Tryz.prog JW [.agg [.v (.int .i64 W), .v (.int .i64 T), .sl 1 1 (AC cs)], .sl 1 1 (AB ls)] (.v (.bool (J7 cs ls))) [.bot, .bot] := by
 refine AE (md := md0) (ms := [false, false]) QA (by simp) ?_
 simp [JX]
 refine AF (fun m E H => ∃ i : Nat, m = cs.length - i ∧ i ≤ cs.length ∧ U6 i (fun k => IG cs ls k) = true ∧ H = [] ∧ E = [(1, .sl 1 1 (AB ls)), (8, .sl 1 1 (AC cs)), (9, .v (.int .i64 cs.length)), (10, .v (.int .i64 i))]) cs.length ⟨0, by simp [Gs]⟩ ?_
 rintro J hJ m E H ⟨i, rfl, hi, ha, rfl, rfl⟩
 by_cases h : i < cs.length
 ·have h2 : i < ls.length := by omega
  have next : IG cs ls i = true → C6 J (cs.length - i) [(1, .sl 1 1 (AB ls)), (8, .sl 1 1 (AC cs)), (9, .v (.int .i64 cs.length)), (10, .v (.int .i64 (i + 1)))] [] :=
   fun hd => ⟨_, by omega, hJ _ _ _ ⟨i + 1, rfl, h, by rw [Gt, ha, hd]; rfl, rfl, rfl⟩⟩
  have stop : IG cs ls i = false → J7 cs ls = false := fun hd => GQ h hd
  cases hc : atb cs i with
  | false =>
    simp [CU, h, h2, hc]
    exact ⟨by omega, next (by simp [IG, hc])⟩
  | true =>
    simp [CU, h, h2, hc]
    exact ⟨fun e => stop (by simp [IG, hc, e]), fun e => ⟨by omega, next (by simp [IG, hc, e])⟩⟩
 ·have : i = cs.length := by omega
  subst this
  simp [CU]
  simpa [J7] using ha
theorem Cq {W T : Int} {cs : List Bool} {ds ls : List Int} (h : Af W T cs ds ls = true) : okB W T cs ds ls = true := by
 simp only [Af, Bool.and_eq_true] at h; exact h.1
theorem fe {W T : Int} {cs : List Bool} {ds ls : List Int} (h : (A0 W T cs && AO W T cs ls) = false) : Af W T cs ds ls = false := by
 cases hf : Af W T cs ds ls with
 | false => rfl
 | true =>
   have := Cq hf
   simp only [okB, Bool.and_eq_true] at this
   rw [this.1, this.2.2] at h; cases h
theorem Mm (W T : Int) (cs : List Bool) (ds ls : List Int) (hb : cs.length < 2 ^ 40) (hd : ds.length < 2 ^ 40) (hl : ls.length < 2 ^ 40) :
  SoundAt Tryz.prog Mk [.agg [.v (.int .i64 W), .v (.int .i64 T), .sl 1 1 (AC cs)], .sl 1 1 (AB ds), .sl 1 1 (AB ls)] (.v (.bool (Cx W T cs ds ls))) [.bot, .bot, .bot] := by
 refine AE (md := md0) (ms := [false, false, false]) UA (by simp) ?_
 simp [Ml]
 refine AA (UB W T cs ls hb hl) ?_
 cases hp : (A0 W T cs && AO W T cs ls) with
 | false => simp [Cx, fe hp]
 | true =>
 cases hf : J7 cs ls with
 | false => simp [Cx, hf]
 | true =>
 simp
 refine AA (BW W T cs ds ls hb hd hl) ?_
 simp [Cx, hf]
def ol (f : Int → Int) (ds : List Int) (i : Nat) : List Int := (ds.take i).map f ++ ds.drop i
end Go.Proofs.Dev
