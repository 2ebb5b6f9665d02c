/- Contracts of the functions of the program over slots and rows, each proved against the program itself; no condition beyond those that each theorem names. -/
import Derived.Test.YtfkmfobbgoflgaaAP
import Derived.Test.YtfkmfobbgoflgaaAH
import Derived.Test.YtfkmfobbgoflgaaAI
import Derived.Test.YtfkmfobbgoflgaaAQ
import Derived.Test.YtfkmfobbgoflgaaAM
import Derived.Test.YtfkmfobbgoflgaaProg
import Derived.Maps.OwnSet
import Derived.Maps.AppendAt
import Derived.WalkSpells
import Derived.Lib.Hide
import Derived.StringKeys

set_option linter.unusedSimpArgs false
set_option linter.unusedVariables false

namespace Go.Proofs.Dev
set_option linter.unusedSimpArgs false
set_option maxRecDepth 100000

/-- Who takes ownership: of the reader. -/
@[simp] def md5 (f : Nat) : List Bool := if f = 23 ∨ f = 26 ∨ f = 62 ∨ f = 63 ∨ f = 40 ∨ f = 999999 ∨ f = 21 ∨ f = 11 then [true, false] else if f = 999999 ∨ f = 999999 ∨ f = 12 ∨ f = 999999 ∨ f = 999999 ∨ f = 999999 ∨ f = 999999 ∨ f = 999999 ∨ f = 999999 ∨ f = 999999 ∨ f = 999999 ∨ f = 999999 ∨ f = 999999 ∨ f = 4 then [true] else if f = 999999 then [false, true] else md0 f

/-- The reader: its bytes, its place. -/
def rdC (bs : List Int) (p : Nat) : List AV := [.sl 0 1 (u8s bs), .v (.int .i64 p)]
def rdA (bs : List Int) (p : Nat) : AV := .op (rdC bs p)

attribute [simp] anil rdA rdC

theorem call_onK {P : Program} {K : ES → Heap → Prop} {E : ES} {H : Heap} {f : Nat} {ms : List Bool} {avs : List AV} {dst : Option Nat} {ts : List AV} {post : AV → List AV → Prop} (hs : SoundSet P f ts post) (ks : List Nat)
    (h1 : ownL H avs ms = some ks) (h2 : ks.Nodup) (h3 : treesL H (killAll ks H) ks.isEmpty avs ms = some ts) (h4 : ∀ r ups, post r ups → ∃ p, backL avs ms ups (thaw r H.length).2.2 = some p ∧
      K (putE (if ks.isEmpty then E else purgeE E) dst (thaw r H.length).1) (setRows ((thaw r H.length).2.1 ++ p.1) (padN (p.2 - H.length) (killAll ks (if ks.isEmpty then H else purgeH H))))) : callNode P f ms avs E H dst K :=
  call_onS hs ⟨ks, h1, h2, h3, h4⟩

/-- A number below n is drawn. -/
def pickSet (bs : List Int) (n : Int) (p : Nat) (r : AV) (ups : List AV) : Prop := ∃ x : Int, 0 ≤ x ∧ (x < n ∨ x = 0) ∧ r = .v (.int .i64 x) ∧ ups = [rdA bs (p + 1), .bot]

theorem s_spec_l20Rd_pick (bs : List Int) (p : Nat) (n : Int) (hb : bs.length ≤ 2000) (hB : Byt bs) (hp : p < 2 ^ 40) :
    SoundSet Try.prog n_spec_l20Rd_pick [rdA bs p, .v (.int .i64 n)] (pickSet bs n p) := by
  refine fn_okBG (md := md5) (ms := [true, false]) k_spec_l20Rd_pick (by simp) (F := FinS [.t 4] 99 2 [true, false] (pickSet bs n p)) (fun _ _ _ h => h) ?_
  have p1 : ((p : Int) + 1 - 1) = p := by omega
  have fin : ∀ x : Int, 0 ≤ x → (x < n ∨ x = 0) → ∀ E : ES, get E 4 = .v (.int .i64 x) → get E 99 = .lp 0 0 0 0 → get E 100 = .v (.int .i64 n) →
      FinS [RV.t 4] 99 2 [true, false] (pickSet bs n p) AExit.ret E [some (Row.box [AV.sl 0 1 (u8s bs), AV.v (Value.int IntKind.i64 ((p : Int) + 1))])] := by
    intro x h0 h1 E e4 e99 e100
    refine ⟨.v (.int .i64 x), [rdA bs (p + 1), .bot], ⟨x, h0, h1, rfl, rfl⟩, ?_⟩
    simp [e4, e99, e100, rdA, rdC]
  by_cases hn : n < 1
  · simp [c_spec_l20Rd_pick_E, rdA, rdC, hn]
    exact ⟨by omega, fin 0 (by omega) (.inr rfl) _ (by simp) (by simp) (by simp)⟩
  by_cases hz : bs = []
  · subst hz
    simp [c_spec_l20Rd_pick_E, rdA, rdC, hn]
    exact ⟨by omega, fin 0 (by omega) (.inr rfl) _ (by simp) (by simp) (by simp)⟩
  have hz2 : ¬ (bs.length : Int) = 0 := by
    intro h; exact hz (List.eq_nil_of_length_eq_zero (by omega))
  by_cases hl : p < bs.length
  · have hb1 := byt_at hB p
    simp [c_spec_l20Rd_pick_E, rdA, rdC, hn, hz, hl, hz2, p1]
    refine ⟨by omega, by omega, by omega, by omega, fin (ati bs p % n) (Int.emod_nonneg _ (by omega)) (.inl (Int.emod_lt_of_pos _ (by omega))) _ (by simp) (by simp) (by simp)⟩
  have m1 := Int.emod_nonneg (p : Int) hz2
  have m2 := Int.emod_lt_of_pos (p : Int) (show 0 < (bs.length : Int) by omega)
  have m3 := Int.emod_nonneg ((p : Int) * 7 + 3) hz2
  have m4 := Int.emod_lt_of_pos ((p : Int) * 7 + 3) (show 0 < (bs.length : Int) by omega)
  have m5 := Int.ediv_nonneg (show 0 ≤ (p : Int) by omega) (show 0 ≤ (bs.length : Int) by omega)
  have m6 := Int.ediv_le_self (bs.length : Int) (show 0 ≤ (p : Int) by omega)
  have b1 := byt_at hB ((p : Int) % bs.length)
  have b2 := byt_at hB (((p : Int) * 7 + 3) % bs.length)
  simp [c_spec_l20Rd_pick_E, rdA, rdC, hn, hz, hl, hz2, p1]
  generalize ati bs ((p : Int) % bs.length) = A at *
  generalize ati bs (((p : Int) * 7 + 3) % bs.length) = B at *
  generalize (p : Int) / bs.length = D at *
  generalize hX : A * 131 + B * 1117 + (p : Int) * 29 + D * 53 = X at *
  (repeat' first | omega | apply And.intro)
  have hx0 : 0 ≤ ((X.toNat ^^^ (X / 64).toNat : Nat) : Int) := by omega
  exact fin (((X.toNat ^^^ (X / 64).toNat : Nat) : Int) % n) (Int.emod_nonneg _ (by omega)) (.inl (Int.emod_lt_of_pos _ (by omega))) _ (by simp) (by simp) (by simp)

/-- Whether one in n. -/
def oddSet (bs : List Int) (p : Nat) (r : AV) (ups : List AV) : Prop := ∃ (b : Bool) (q : Nat), r = .v (.bool b) ∧ q ≤ p + 1 ∧ ups = [rdA bs q, .bot]

theorem s_spec_l20Rd_odd (bs : List Int) (p : Nat) (n : Int) (hb : bs.length ≤ 2000) (hB : Byt bs) (hp : p < 2 ^ 40) (hn : n < 2 ^ 40) :
    SoundSet Try.prog n_spec_l20Rd_odd [rdA bs p, .v (.int .i64 n)] (oddSet bs p) := by
  refine fn_okS (md := md5) (ms := [true, false]) k_spec_l20Rd_odd (by simp) ?_
  by_cases h : 0 < n
  · simp [c_spec_l20Rd_odd, h]
    refine call_onK (s_spec_l20Rd_pick bs p n hb hB hp) [0] (by simp) (by simp) (by simp) ?_
    rintro _ _ ⟨x, h0, h1, rfl, rfl⟩
    simp
    refine ⟨by omega, ?_⟩
    refine ⟨.v (.bool (x == n - 1)), [rdA bs (p + 1), .bot], ⟨_, p + 1, rfl, Nat.le_refl _, rfl⟩, ?_⟩
    simp
  · simp [c_spec_l20Rd_odd, h]
    refine ⟨.v (.bool false), [rdA bs p, .bot], ⟨_, p, rfl, by omega, rfl⟩, ?_⟩
    simp

theorem s_spec_l20Open (bs : List Int) (hb : bs.length ≤ 2 ^ 60) :
    SoundAt Try.prog n_spec_l20Open [.sl 0 1 (u8s bs)] (rdA (bs.take 2000) 0) [.bot] := by
  refine fn_okPA (md := md5) (ms := [false]) k_spec_l20Open (by simp) ?_
  by_cases h : 2000 < bs.length
  · have h' : (2000 : Int) < bs.length := by omega
    have h2 : (2000 : Int) ≤ bs.length := by omega
    simp [c_spec_l20Open, h', h2, take_u8s]
    omega
  · have h' : ¬ (2000 : Int) < bs.length := by omega
    have e : bs.take 2000 = bs := List.take_of_length_le (by omega)
    simp [c_spec_l20Open, h', e]

end Go.Proofs.Dev

namespace Go.Proofs.Dev
set_option linter.unusedSimpArgs false
set_option maxRecDepth 100000

def regA (W T : Int) (cs : List Bool) : AV := .agg [.v (.int .i64 W), .v (.int .i64 T), .os 1 (bools cs)]
/-- A region of a few cells is drawn. -/
def regSet (bs : List Int) (p d : Nat) (r : AV) (ups : List AV) : Prop := ∃ (W T : Int) (cs : List Bool) (q : Nat), r = regA W T cs ∧ cs.length ≤ 37 ∧ 0 ≤ W ∧ W ≤ 6 ∧ 0 ≤ T ∧ T ≤ 24 ∧ q ≤ p + d ∧ ups = [rdA bs q, .bot]

/-- The row of a region whose list of cells grows. -/
def growR (W T : Int) (id : Nat) (cs : List Bool) : List (Option Row) := if cs = [] then [some (.box [.v (.int .i64 W), .v (.int .i64 T), .os 1 []])] else [some (.box [.v (.int .i64 W), .v (.int .i64 T), .ls 1 id 0 cs.length]), some (.arr 1 (bools cs))]

def c_spec_l20Region_T : ACode :=
  .seq (.seq (.reg [⟨(some 7), .mv, [.c (.v (.int .i64 (0)))], none⟩]) <|
  .block 0 (
    .loop [] [0, 1, 4, 5, 6, 7, 73] c_spec_l20Region_L0)) <|
  .seq (.seq (.reg [⟨(some 47), .mv, [.t 0], none⟩,
    ⟨(some 48), .mv, [.t 1], none⟩,
    ⟨(some 49), .call 26 [], [.t 47, .t 48], none⟩]) <|
  .cond (.t 49) (
    .seq (.reg [⟨(some 50), .mv, [.t 0], none⟩,
      ⟨(some 51), .call 23 [], [.t 50, .c (.v (.int .i64 (3)))], none⟩]) <|
    .block 2 (
      .seq (.reg [⟨(some 63), .bin .eql 0, [.t 51, .c (.v (.int .i64 (0)))], none⟩,
        ⟨(some 62), .mv, [.t 63], none⟩]) <|
      .cond (.t 62) (
        .reg [⟨(some 64), .fadr 2, [.t 5], none⟩,
          ⟨(some 65), .load false 1, [.t 64], none⟩,
          ⟨(some 66), .bsl 1, [.c (.v (.bool true))], none⟩,
          ⟨(some 67), .app 1 1 true, [.t 65, .t 66], none⟩,
          ⟨(some 68), .fadr 2, [.t 5], none⟩,
          ⟨none, .store 1, [.t 68, .t 67], none⟩]) (
        .seq (.reg [⟨(some 70), .bin .eql 0, [.t 51, .c (.v (.int .i64 (1)))], none⟩,
          ⟨(some 69), .mv, [.t 70], none⟩]) <|
        .cond (.t 69) (
          .seq (.reg [⟨(some 71), .build [.v (.int .i64 (0)), .v (.int .i64 (0)), .os 1 []] [], [], none⟩,
            ⟨none, .store 3, [.t 4, .t 71], none⟩]) <|
          .ret) (
          .seq (.reg [⟨(some 52), .build [.v (.int .i64 (0)), .v (.int .i64 (0)), .os 1 []] [(0, 1), (1, 1)], [.c (.v (.int .i64 (6))), .c (.v (.int .i64 (6)))], none⟩,
            ⟨none, .store 3, [.t 5, .t 52], none⟩]) <|
          .seq (.reg [⟨(some 8), .mv, [.c (.v (.int .i64 (0)))], none⟩]) <|
          .block 3 (
            .loop [] [4, 5, 8, 73] c_spec_l20Region_L1))))) (
    .skip)) <|
  .seq (.reg [⟨(some 72), .load true 3, [.t 5], none⟩,
    ⟨none, .store 3, [.t 4, .t 72], none⟩]) <|
  .ret

theorem reg_full (bs : List Int) (p q : Nat) (hq : q ≤ p + 100) : loopNode [] [4, 5, 8, 73] (awp Try.prog md5 c_spec_l20Region_L1)
    (ablock 3 (ablock 2 (athen (awp Try.prog md5 (.seq (.reg [⟨(some 72), .load true 3, [.t 5], none⟩, ⟨none, .store 3, [.t 4, .t 72], none⟩]) .ret) (FinS [RV.c 4 true 3] 73 2 [true, false] (regSet bs p 100))) (FinS [RV.c 4 true 3] 73 2 [true, false] (regSet bs p 100)))))
    [(4, .lp 0 0 0 0), (5, .lp 0 1 0 0), (8, .v (.int .i64 0)), (73, .lp 0 2 0 0)]
    [some (.box [.v (.int .i64 0), .v (.int .i64 0), .os 1 []]), some (.box [.v (.int .i64 6), .v (.int .i64 6), .os 1 []]), some (.box [.sl 0 1 (u8s bs), .v (.int .i64 (q : Int))])] := by
  refine loop_by (fun m E H => ∃ i : Nat, m = 36 - i ∧ i ≤ 36 ∧ E = [(4, .lp 0 0 0 0), (5, .lp 0 1 0 0), (8, .v (.int .i64 i)), (73, .lp 0 2 0 0)] ∧
    H = if i = 0 then [some (.box [.v (.int .i64 0), .v (.int .i64 0), .os 1 []]), some (.box [.v (.int .i64 6), .v (.int .i64 6), .os 1 []]), some (.box [.sl 0 1 (u8s bs), .v (.int .i64 (q : Int))])]
      else [some (.box [.v (.int .i64 0), .v (.int .i64 0), .os 1 []]), some (.box [.v (.int .i64 6), .v (.int .i64 6), .ls 1 3 0 i]), some (.box [.sl 0 1 (u8s bs), .v (.int .i64 (q : Int))]), some (.arr 1 (bools (List.replicate i true)))]) 36 ⟨0, rfl, by omega, by simp, by simp⟩ ?_
  rintro J hJ m E H ⟨i, rfl, hi, rfl, rfl⟩
  by_cases h : i < 36
  · have h' : (i : Int) < 36 := by omega
    by_cases h0 : i = 0
    · subst h0
      simp [c_spec_l20Region_L1]
      exact ⟨_, by omega, hJ _ _ _ ⟨1, rfl, by omega, by simp, by simp [bools]⟩⟩
    · have e : bools (List.replicate i true) ++ [.v (.bool true)] = bools (List.replicate (i + 1) true) := by rw [List.replicate_succ', bools_append]; rfl
      simp [c_spec_l20Region_L1, h', h0, e]
      exact ⟨by omega, by omega, _, by omega, hJ _ _ _ ⟨i + 1, rfl, h, by simp, by simp⟩⟩
  · have : i = 36 := by omega
    subst this
    simp [c_spec_l20Region_L1]
    refine ⟨_, _, ⟨6, 6, List.replicate 36 true, q, rfl, by simp, by omega, by omega, by omega, by omega, hq, rfl⟩, ?_⟩
    simp [regA]
    rfl

/-- A region whose sides are drawn: the rest. -/
theorem reg_tail (bs : List Int) (p : Nat) (n W T : Int) (hb : bs.length ≤ 2000) (hB : Byt bs) (hp : p < 2 ^ 39) (hn : n < 2 ^ 39) (hW : 1 ≤ W ∧ W ≤ 6) (hT : 0 ≤ T ∧ T ≤ 24) (hm : 0 ≤ W * T ∧ W * T ≤ 36) (E : ES) (P2 : Int) (hP2 : P2 = ((p + 1 + 1 : Nat) : Int))
    (e0 : get E 0 = .lp 0 0 0 0) (e1 : get E 1 = .v (.int .i64 n)) (e4 : get E 4 = .lp 0 1 0 0) (e5 : get E 5 = .lp 0 2 0 0) (e73 : get E 73 = .lp 0 0 0 0) :
    callNode Try.prog 23 [true, false] [AV.lp 0 0 0 0, AV.v (Value.int IntKind.i64 8)] E
      [some (Row.box [AV.sl 0 1 (u8s bs), AV.v (Value.int IntKind.i64 P2)]), some (Row.box [AV.v (Value.int IntKind.i64 0), AV.v (Value.int IntKind.i64 0), AV.os 1 []]), some (Row.box [AV.v (Value.int IntKind.i64 W), AV.v (Value.int IntKind.i64 T), AV.os 1 []])]
      (some 27)
      (awpOps Try.prog md5
        [{ dst := some 28, k := AK.bin BinOp.add 0, xs := [Opd.c (AV.v (Value.int IntKind.i64 2)), Opd.t 27], guard := none }, { dst := some 6, k := AK.mv, xs := [Opd.t 28], guard := none }]
        (awp Try.prog md5 c_spec_l20Region_T (FinS [RV.c 4 true 3] 73 2 [true, false] (regSet bs p 100)))) := by
  subst hP2
  refine call_onK (s_spec_l20Rd_pick bs (p + 1 + 1) 8 hb hB (by omega)) [0] (by simp) (by simp) (by simp) ?_
  rintro _ _ ⟨z, z0, z1, rfl, rfl⟩
  simp [c_spec_l20Region_T, get_purgeE, e0, e1, e4, e5, e73]
  refine ⟨by omega, ?_⟩
  obtain ⟨N, hN⟩ : ∃ N : Nat, W * T = N := ⟨(W * T).toNat, by omega⟩
  refine loop_by (fun m E H => ∃ (i q : Nat) (cs : List Bool), m = N - i ∧ i ≤ N ∧ cs.length = i ∧ q ≤ p + 3 + i ∧
    H = some (.box [.sl 0 1 (u8s bs), .v (.int .i64 q)]) :: some (.box [.v (.int .i64 0), .v (.int .i64 0), .os 1 []]) :: growR W T 3 cs ∧
    E = [(0, .lp 0 0 0 0), (1, .v (.int .i64 n)), (4, .lp 0 1 0 0), (5, .lp 0 2 0 0), (6, .v (.int .i64 (2 + z))), (7, .v (.int .i64 i)), (73, .lp 0 0 0 0)]) N ⟨0, p + 1 + 1 + 1, [], rfl, by omega, rfl, by omega, by simp [growR], by simp⟩ ?_
  rintro J hJ m E H ⟨i, q, cs, rfl, hi, hlen, hq, rfl, rfl⟩
  by_cases h : i < N
  · have h' : (i : Int) < W * T := by omega
    have next : ∀ c : Bool, again J (N - i) [(0, .lp 0 0 0 0), (1, .v (.int .i64 n)), (4, .lp 0 1 0 0), (5, .lp 0 2 0 0), (6, .v (.int .i64 (2 + z))), (7, .v (.int .i64 (i + 1))), (73, .lp 0 0 0 0)]
        (some (.box [.sl 0 1 (u8s bs), .v (.int .i64 (q + 1))]) :: some (.box [.v (.int .i64 0), .v (.int .i64 0), .os 1 []]) :: growR W T 3 (cs ++ [c])) := by
      intro c
      exact ⟨_, by omega, hJ _ _ _ ⟨i + 1, q + 1, cs ++ [c], rfl, h, by simp [hlen], by omega, by simp, by simp⟩⟩
    by_cases hc : cs = []
    · subst hc
      simp [c_spec_l20Region_L0, growR, h']
      (repeat' first | omega | apply And.intro) <;>
      · refine call_onK (s_spec_l20Rd_pick bs q 10 hb hB (by omega)) [0] (by simp) (by simp) (by simp) ?_
        rintro _ _ ⟨x, x0, x1, rfl, rfl⟩
        simp
        have n2 := next (decide (x ≤ 2 + z))
        simp [growR, bools] at n2
        exact ⟨by omega, n2⟩
    · have hcl : ¬ cs.length = 0 := fun h => hc (List.eq_nil_of_length_eq_zero h)
      simp [c_spec_l20Region_L0, growR, h', hc]
      (repeat' first | omega | apply And.intro) <;>
      · refine call_onK (s_spec_l20Rd_pick bs q 10 hb hB (by omega)) [0] (by simp) (by simp) (by simp) ?_
        rintro _ _ ⟨x, x0, x1, rfl, rfl⟩
        simp
        have n2 := next (decide (x ≤ 2 + z))
        simp [growR, bools_append, bools_one] at n2
        (repeat' first | omega | assumption | apply And.intro)
  have : i = N := by omega
  subst this
  have h' : ¬ (i : Int) < W * T := by omega
  have fin : ∀ (W2 T2 : Int) (cs2 : List Bool) (q2 : Nat), cs2.length ≤ 37 → 0 ≤ W2 → W2 ≤ 6 → 0 ≤ T2 → T2 ≤ 24 → q2 ≤ p + 100 → regSet bs p 100 (regA W2 T2 cs2) [rdA bs q2, .bot] :=
    fun W2 T2 cs2 q2 a1 a2 a3 a4 a5 a6 => ⟨W2, T2, cs2, q2, rfl, a1, a2, a3, a4, a5, a6, rfl⟩
  by_cases hc : cs = []
  · subst hc
    simp [c_spec_l20Region_L0, growR, h']
    refine ⟨by omega, ?_⟩
    refine call_onK (s_spec_l20Rd_odd bs q n hb hB (by omega) (by omega)) [0] (by simp) (by simp) (by simp) ?_
    rintro _ _ ⟨b, q2, rfl, hq2, rfl⟩
    cases b with
    | false =>
      simp
      refine ⟨_, _, fin W T [] q2 (by simp) (by omega) (by omega) (by omega) (by omega) (by omega), ?_⟩
      simp [regA]
    | true =>
    simp
    refine call_onK (s_spec_l20Rd_pick bs q2 3 hb hB (by omega)) [0] (by simp) (by simp) (by simp) ?_
    rintro _ _ ⟨x, x0, x1, rfl, rfl⟩
    by_cases c0 : x = 0
    · simp [c0]
      refine ⟨_, _, fin W T [true] (q2 + 1) (by simp) (by omega) (by omega) (by omega) (by omega) (by omega), ?_⟩
      simp [regA, bools]
    by_cases c1 : x = 1
    · simp [c1]
      refine ⟨_, _, fin 0 0 [] (q2 + 1) (by simp) (by omega) (by omega) (by omega) (by omega) (by omega), ?_⟩
      simp [regA, bools]
    simp [c0, c1]
    exact reg_full bs p (q2 + 1) (by omega)
  · have hcl : ¬ cs.length = 0 := fun h => hc (List.eq_nil_of_length_eq_zero h)
    simp [c_spec_l20Region_L0, growR, h', hc]
    refine ⟨by omega, ?_⟩
    refine call_onK (s_spec_l20Rd_odd bs q n hb hB (by omega) (by omega)) [0] (by simp) (by simp) (by simp) ?_
    rintro _ _ ⟨b, q2, rfl, hq2, rfl⟩
    cases b with
    | false =>
      simp
      refine ⟨_, _, fin W T cs q2 (by omega) (by omega) (by omega) (by omega) (by omega) (by omega), ?_⟩
      simp [regA]
    | true =>
    simp
    refine call_onK (s_spec_l20Rd_pick bs q2 3 hb hB (by omega)) [0] (by simp) (by simp) (by simp) ?_
    rintro _ _ ⟨x, x0, x1, rfl, rfl⟩
    by_cases c0 : x = 0
    · simp [c0]
      refine ⟨by omega, ?_⟩
      refine ⟨_, _, fin W T (cs ++ [true]) (q2 + 1) (by simp; omega) (by omega) (by omega) (by omega) (by omega) (by omega), ?_⟩
      simp [regA, bools_append, bools_one]
      exact List.take_of_length_le (by simp)
    by_cases c1 : x = 1
    · simp [c1]
      refine ⟨_, _, fin 0 0 [] (q2 + 1) (by simp) (by omega) (by omega) (by omega) (by omega) (by omega), ?_⟩
      simp [regA, bools]
    simp [c0, c1]
    exact reg_full bs p (q2 + 1) (by omega)

theorem s_spec_l20Region (bs : List Int) (p : Nat) (n : Int) (hb : bs.length ≤ 2000) (hB : Byt bs) (hp : p < 2 ^ 39) (hn : n < 2 ^ 39) :
    SoundSet Try.prog n_spec_l20Region [rdA bs p, .v (.int .i64 n)] (regSet bs p 100) := by
  refine fn_okS (md := md5) (ms := [true, false]) k_spec_l20Region (by simp) ?_
  simp [c_spec_l20Region]
  refine call_onK (s_spec_l20Rd_pick bs p 6 hb hB (by omega)) [0] (by simp) (by simp) (by simp) ?_
  rintro _ _ ⟨x, x0, x1, rfl, rfl⟩
  simp
  refine ⟨by omega, ?_⟩
  refine call_onK (s_spec_l20Rd_pick bs (p + 1) 6 hb hB (by omega)) [0] (by simp) (by simp) (by simp) ?_
  rintro _ _ ⟨y, y0, y1, rfl, rfl⟩
  simp
  have hW : 1 ≤ 1 + x ∧ 1 + x ≤ 6 := by omega
  have hY : 1 ≤ 1 + y ∧ 1 + y ≤ 6 := by omega
  have hm0 : 0 ≤ (1 + x) * (1 + y) := Int.mul_nonneg (by omega) (by omega)
  have hm1 : (1 + x) * (1 + y) ≤ 6 * 6 := Int.mul_le_mul hW.2 hY.2 (by omega) (by omega)
  refine ⟨by omega, by omega, ?_⟩
  have hT1 : 0 ≤ 24 / (1 + x) ∧ 24 / (1 + x) ≤ 24 := ⟨Int.ediv_nonneg (by omega) (by omega), Int.ediv_le_self _ (by omega)⟩
  have hT2 : (1 + x) * (24 / (1 + x)) ≤ 24 := Int.mul_ediv_self_le (by omega)
  have hT3 : 0 ≤ (1 + x) * (24 / (1 + x)) := Int.mul_nonneg (by omega) hT1.1
  obtain ⟨T1, hTe1⟩ : ∃ T, 24 / (1 + x) = T := ⟨_, rfl⟩
  obtain ⟨T2, hTe2⟩ : ∃ T, 1 + y = T := ⟨_, rfl⟩
  obtain ⟨W, hWe⟩ : ∃ W, 1 + x = W := ⟨_, rfl⟩
  rw [hTe1, hWe] at hT2 hT3
  rw [hTe1] at hT1
  rw [hWe] at hTe1
  rw [hTe2, hWe] at hm0 hm1
  rw [hTe2] at hY
  rw [hWe] at hW
  simp only [hWe, hTe1, hTe2]
  clear hTe1 hTe2 hWe
  have e2 : (p : Int) + 1 + 1 = ((p + 1 + 1 : Nat) : Int) := by simp
  refine ⟨fun hgt => ⟨by omega, ?_⟩, fun hgt => ?_⟩
  · refine reg_tail bs p n W T1 hb hB hp hn hW hT1 ⟨hT3, by omega⟩ _ _ e2 ?_ ?_ ?_ ?_ ?_ <;> rfl
  · refine reg_tail bs p n W T2 hb hB hp hn hW ⟨by omega, by omega⟩ ⟨hm0, hm1⟩ _ _ e2 ?_ ?_ ?_ ?_ ?_ <;> rfl

end Go.Proofs.Dev

namespace Go.Proofs.Dev
set_option linter.unusedSimpArgs false
set_option maxRecDepth 100000

theorem s_spec_RegionBox (W T : Int) (hW : 0 ≤ W ∧ W ≤ 100) (hT : 0 ≤ T ∧ T ≤ 100) :
    SoundAt Try.prog n_spec_RegionBox [.v (.int .i64 W), .v (.int .i64 T)] (if boxB W T = true then regA W T (boxL W T) else regA 0 0 []) [.bot, .bot] := by
  refine fn_ok (md := md5) (ms := [false, false]) k_spec_RegionBox (by simp) ?_
  have p0 : 0 ≤ W * T := Int.mul_nonneg hW.1 hT.1
  have p1 : W * T ≤ 100 * 100 := Int.mul_le_mul hW.2 hT.2 hT.1 (by omega)
  simp [c_spec_RegionBox]
  refine call_on (s_spec_l1In W 1 6) ?_
  by_cases h1 : 1 ≤ W ∧ W ≤ 6
  case neg =>
    have h1' : (decide (1 ≤ W) && decide (W ≤ 6)) = false := by simp; omega
    have hb : boxB W T = false := by simp [boxB]; omega
    simp [h1', hb, regA]
  simp [h1]
  refine call_on (s_spec_l1In T 1 6) ?_
  by_cases h2 : 1 ≤ T ∧ T ≤ 6
  case neg =>
    have h2' : (decide (1 ≤ T) && decide (T ≤ 6)) = false := by simp; omega
    have hb : boxB W T = false := by simp [boxB]; omega
    simp [h2', hb, regA]
  simp [h2]
  refine ⟨by omega, ?_⟩
  by_cases h3 : 24 < W * T
  · have hb : boxB W T = false := by simp [boxB]; omega
    have h3' : ¬ W * T ≤ 24 := by omega
    simp [h3, h3', hb, regA]
  have hb : boxB W T = true := by simp [boxB]; omega
  have h3' : W * T ≤ 24 := by omega
  simp [h3, h3', hb]
  obtain ⟨N, hN⟩ : ∃ N : Nat, W * T = N := ⟨(W * T).toNat, by omega⟩
  have hL : boxL W T = List.replicate N true := by unfold boxL; congr 1; omega
  rw [hL]
  refine loop_by (fun m E H => ∃ i : Nat, m = N - i ∧ i ≤ N ∧ E = [(0, .v (.int .i64 W)), (1, .v (.int .i64 T)), (4, .lp 0 0 0 0), (5, .lp 0 1 0 0), (6, .v (.int .i64 i))] ∧
    H = some (.box [.v (.int .i64 0), .v (.int .i64 0), .os 1 []]) :: growR W T 2 (List.replicate i true)) N ⟨0, rfl, by omega, by simp, by simp [growR]⟩ ?_
  rintro J hJ m E H ⟨i, rfl, hi, rfl, rfl⟩
  by_cases h : i < N
  · have h' : (i : Int) < W * T := by omega
    by_cases h0 : i = 0
    · subst h0
      have h'' : (0 : Int) < W * T := by simpa using h'
      simp [c_spec_RegionBox_L0, growR, h'']
      refine ⟨by omega, _, by omega, hJ _ _ _ ⟨1, rfl, by omega, by simp, by simp [growR, bools]⟩⟩
    · have e : bools (List.replicate i true) ++ [.v (.bool true)] = bools (List.replicate (i + 1) true) := by rw [List.replicate_succ', bools_append]; rfl
      simp [c_spec_RegionBox_L0, growR, h', h0, e]
      exact ⟨by omega, by omega, by omega, _, by omega, hJ _ _ _ ⟨i + 1, rfl, h, by simp, by simp [growR]⟩⟩
  · have : i = N := by omega
    subst this
    have h' : ¬ (i : Int) < W * T := by omega
    have h0 : ¬ i = 0 := by
      intro h0
      subst h0
      have : 1 * 1 ≤ W * T := Int.mul_le_mul h1.1 h2.1 (by omega) (by omega)
      omega
    simp [c_spec_RegionBox_L0, growR, h', h0, regA]
    exact ⟨by omega, List.take_of_length_le (by simp)⟩

theorem get4 {x : Int} (h0 : 0 ≤ x) (h1 : x < 4) : ([AV.v (.int .i64 1), AV.v (.int .i64 2), AV.v (.int .i64 3), AV.v (.int .i64 4)] : List AV)[x.toNat]? = some (.v (.int .i64 (x + 1))) := by
  obtain rfl | rfl | rfl | rfl : x = 0 ∨ x = 1 ∨ x = 2 ∨ x = 3 := by omega
  all_goals rfl

theorem get4' {x : Int} (h0 : 0 ≤ x) (h1 : x < 4) (h : x.toNat < ([AV.v (.int .i64 1), AV.v (.int .i64 2), AV.v (.int .i64 3), AV.v (.int .i64 4)] : List AV).length) : ([AV.v (.int .i64 1), AV.v (.int .i64 2), AV.v (.int .i64 3), AV.v (.int .i64 4)] : List AV)[x.toNat]'h = .v (.int .i64 (x + 1)) := by
  have := get4 h0 h1
  rw [List.getElem?_eq_getElem h] at this
  exact Option.some.inj this

theorem tried_lays {W T : Int} {cs : List Bool} {ls : List Int} {cell way : Int} (hr : regB W T cs = true) (hy : laysB W T cs ls = true) : laysB W T cs (layOneL W T cs ls cell way) = true := by
  unfold layOneL
  split
  · rename_i h; exact lay_ok hr hy h
  · exact hy
theorem layOneL_length {W T : Int} {cs : List Bool} {ls : List Int} {cell way : Int} : (layOneL W T cs ls cell way).length = ls.length := by
  unfold layOneL
  split
  · exact layI_length ..
  · rfl

theorem s_spec_l20Tiled (bs : List Int) (p : Nat) (n : Int) (hb : bs.length ≤ 2000) (hB : Byt bs) (hp : p < 2 ^ 38) (hn : n < 2 ^ 39) :
    SoundSet Try.prog n_spec_l20Tiled [rdA bs p, .v (.int .i64 n)] (regSet bs p 200) := by
  refine fn_okS (md := md5) (ms := [true, false]) k_spec_l20Tiled (by simp) ?_
  simp [c_spec_l20Tiled]
  refine call_onK (s_spec_l20Region bs p n hb hB (by omega) hn) [0] (by simp) (by simp) (by simp) ?_
  rintro _ _ ⟨W, T, cs, q, rfl, hcs, w0, w6, t0, t24, hq, rfl⟩
  simp [regA]
  refine call_on (s_spec_RegionValid W T cs (by omega)) ?_
  cases hr : regB W T cs with
  | false =>
    simp
    refine ⟨_, _, ⟨W, T, cs, q, rfl, hcs, w0, w6, t0, t24, by omega, rfl⟩, ?_⟩
    simp [regA]
  | true =>
  simp
  refine call_on (s_spec_LaidBare W T cs (by omega)) ?_
  simp [hr]
  have h36 := regB_len hr
  have hn0 : (noneL cs).length = cs.length := by simp [noneL]
  rw [hn0]
  refine loop_by (fun m E H => ∃ (i q : Nat) (ls : List Int), m = cs.length - i ∧ i ≤ cs.length ∧ q ≤ p + 100 + i ∧ laysB W T cs ls = true ∧
    E = [(0, .lp 0 0 0 0), (4, .lp 0 1 0 0), (5, .lp 0 2 0 0), (6, .ls 1 3 0 cs.length), (7, .v (.int .i64 i)), (87, .lp 0 0 0 0)] ∧
    H = [some (.box [.sl 0 1 (u8s bs), .v (.int .i64 q)]), some (.box [.v (.int .i64 0), .v (.int .i64 0), .os 1 []]), some (.box [.v (.int .i64 W), .v (.int .i64 T), .ls 1 4 0 cs.length]), some (.arr 1 (ints ls)), some (.arr 1 (bools cs))]) cs.length
    ⟨0, q, noneL cs, rfl, by omega, by omega, lays_none W T cs, by simp, by simp⟩ ?_
  rintro J hJ m E H ⟨i, q, ls, rfl, hi, hq2, hy, rfl, rfl⟩
  have hlen := lays_len hy
  by_cases h : i < cs.length
  · have next : ∀ x : Int, again J (cs.length - i) [(0, .lp 0 0 0 0), (4, .lp 0 1 0 0), (5, .lp 0 2 0 0), (6, .ls 1 3 0 cs.length), (7, .v (.int .i64 (i + 1))), (87, .lp 0 0 0 0)]
        [some (.box [.sl 0 1 (u8s bs), .v (.int .i64 (q + 1))]), some (.box [.v (.int .i64 0), .v (.int .i64 0), .os 1 []]), some (.box [.v (.int .i64 W), .v (.int .i64 T), .ls 1 4 0 cs.length]), some (.arr 1 (ints (layOneL W T cs ls i x))), some (.arr 1 (bools cs))] :=
      fun x => ⟨_, by omega, hJ _ _ _ ⟨i + 1, q + 1, layOneL W T cs ls i x, rfl, h, by omega, tried_lays hr hy, by simp, by simp⟩⟩
    simp [c_spec_l20Tiled_L0, h]
    (repeat' first | omega | apply And.intro) <;>
    · refine call_onK (s_spec_l20Rd_pick bs q 4 hb hB (by omega)) [0] (by simp) (by simp) (by simp) ?_
      rintro _ _ ⟨x, x0, x1, rfl, rfl⟩
      have x4 : x < 4 := by omega
      have hg := get4' x0 x4
      have one := s_spec_LayOne W T cs ls i (x + 1) hr hy
      have n2 := next (x + 1)
      have hl1 : (layOneL W T cs ls i (x + 1)).length = cs.length := by rw [layOneL_length]; exact hlen
      have htk : (ints ls).take cs.length = ints ls := List.take_of_length_le (by simp [hlen])
      simp [x0, x4, hg]
      (repeat' first | omega | apply And.intro) <;>
      · refine call_on one ?_
        simp [hlen, htk]
        cases hf : freeB W T cs ls i (x + 1) with
        | false =>
          have e : layOneL W T cs ls i (x + 1) = ls := by simp [layOneL, hf]
          rw [e] at n2
          simp
          exact ⟨by omega, n2⟩
        | true =>
          simp [hl1]
          exact ⟨by omega, n2⟩
  have : i = cs.length := by omega
  subst this
  simp [c_spec_l20Tiled_L0]
  clear hJ J
  refine loop_by (fun m E H => ∃ (i : Nat) (ls : List Int), m = cs.length - i ∧ i ≤ cs.length ∧ laysB W T cs ls = true ∧
    E = [(4, .lp 0 0 0 0), (5, .lp 0 1 0 0), (6, .ls 1 2 0 cs.length), (10, .v (.int .i64 i)), (87, .lp 0 3 0 0)] ∧
    H = [some (.box [.v (.int .i64 0), .v (.int .i64 0), .os 1 []]), some (.box [.v (.int .i64 W), .v (.int .i64 T), .ls 1 4 0 cs.length]), some (.arr 1 (ints ls)), some (.box [.sl 0 1 (u8s bs), .v (.int .i64 q)]), some (.arr 1 (bools cs))]) cs.length
    ⟨0, ls, rfl, by omega, hy, by simp, by simp⟩ ?_
  clear hy hlen
  rintro J hJ m E H ⟨i, ls, rfl, hi, hy, rfl, rfl⟩
  by_cases h : i < cs.length
  · simp [c_spec_l20Tiled_L2, h]
    refine loop_by (fun m E H => ∃ (j : Nat) (ls : List Int), m = 2 - j ∧ j ≤ 2 ∧ laysB W T cs ls = true ∧
      E = [(4, .lp 0 0 0 0), (5, .lp 0 1 0 0), (6, .ls 1 2 0 cs.length), (10, .v (.int .i64 i)), (11, .v (.int .i64 ((j + 1 : Nat) : Int))), (87, .lp 0 3 0 0)] ∧
      H = [some (.box [.v (.int .i64 0), .v (.int .i64 0), .os 1 []]), some (.box [.v (.int .i64 W), .v (.int .i64 T), .ls 1 4 0 cs.length]), some (.arr 1 (ints ls)), some (.box [.sl 0 1 (u8s bs), .v (.int .i64 q)]), some (.arr 1 (bools cs))]) 2
      ⟨0, ls, rfl, by omega, hy, by simp, by simp⟩ ?_
    clear hy ls
    rintro J2 hJ2 m2 E2 H2 ⟨j, ls, rfl, hj, hy, rfl, rfl⟩
    have hlen := lays_len hy
    by_cases hj2 : j < 2
    · have one := s_spec_LayOne W T cs ls i (j + 1) hr hy
      have hl1 : (layOneL W T cs ls i (j + 1)).length = cs.length := by rw [layOneL_length]; exact hlen
      have htk : (ints ls).take cs.length = ints ls := List.take_of_length_le (by simp [hlen])
      have hj' : (j : Int) + 1 ≤ 2 := by omega
      simp [c_spec_l20Tiled_L1, hj']
      refine call_on one ?_
      simp [hlen, htk]
      cases hf : freeB W T cs ls i (j + 1) with
      | false =>
        simp
        exact ⟨by omega, _, by omega, hJ2 _ _ _ ⟨j + 1, ls, rfl, by omega, hy, by simp, rfl⟩⟩
      | true =>
        simp [hl1]
        exact ⟨by omega, _, by omega, hJ2 _ _ _ ⟨j + 1, layOneL W T cs ls i (j + 1), rfl, by omega, tried_lays hr hy, by simp, rfl⟩⟩
    · have hj' : ¬ (j : Int) + 1 ≤ 2 := by omega
      simp [c_spec_l20Tiled_L1, hj']
      exact ⟨by omega, _, by omega, hJ _ _ _ ⟨i + 1, ls, rfl, h, hy, by simp, rfl⟩⟩
  have : i = cs.length := by omega
  subst this
  have hlen := lays_len hy
  simp [c_spec_l20Tiled_L2]
  clear hJ J
  refine loop_by (fun m E H => ∃ (i : Nat) (out : List Bool), m = cs.length - i ∧ i ≤ cs.length ∧ out.length = i ∧
    E = [(4, .lp 0 0 0 0), (6, .ls 1 1 0 cs.length), (14, .lp 0 2 0 0), (15, .v (.int .i64 i)), (87, .lp 0 3 0 0)] ∧
    H = if out = [] then [some (.box [.v (.int .i64 0), .v (.int .i64 0), .os 1 []]), some (.arr 1 (ints ls)), some (.box [.v (.int .i64 W), .v (.int .i64 T), .os 1 []]), some (.box [.sl 0 1 (u8s bs), .v (.int .i64 q)])]
      else [some (.box [.v (.int .i64 0), .v (.int .i64 0), .os 1 []]), some (.arr 1 (ints ls)), some (.box [.v (.int .i64 W), .v (.int .i64 T), .ls 1 4 0 out.length]), some (.box [.sl 0 1 (u8s bs), .v (.int .i64 q)]), some (.arr 1 (bools out))]) cs.length
    ⟨0, [], rfl, by omega, rfl, by simp, by simp⟩ ?_
  rintro J hJ m E H ⟨i, out, rfl, hi, hol, rfl, rfl⟩
  by_cases h : i < cs.length
  · have hil : i < ls.length := by omega
    by_cases ho : out = []
    · subst ho
      simp at hol
      subst hol
      simp [c_spec_l20Tiled_L3, h, hil]
      exact ⟨_, by omega, hJ _ _ _ ⟨1, [ati ls 0 != 0], rfl, by omega, rfl, by simp, by simp [bools]⟩⟩
    · simp [c_spec_l20Tiled_L3, h, hil, ho]
      have n2 : again J (cs.length - i) [(4, .lp 0 0 0 0), (6, .ls 1 1 0 cs.length), (14, .lp 0 2 0 0), (15, .v (.int .i64 (i + 1))), (87, .lp 0 3 0 0)]
          [some (.box [.v (.int .i64 0), .v (.int .i64 0), .os 1 []]), some (.arr 1 (ints ls)), some (.box [.v (.int .i64 W), .v (.int .i64 T), .ls 1 4 0 (out.length + 1)]), some (.box [.sl 0 1 (u8s bs), .v (.int .i64 q)]), some (.arr 1 (bools out ++ [.v (.bool (ati ls i != 0))]))] :=
        ⟨_, by omega, hJ _ _ _ ⟨i + 1, out ++ [ati ls i != 0], rfl, h, by simp [hol], by simp, by simp [bools_append, bools_one]⟩⟩
      (repeat' first | omega | assumption | apply And.intro)
  have : i = cs.length := by omega
  subst this
  have hne : ¬ out = [] := by
    intro h0
    obtain ⟨w1, w2, t1, t2, l1, _⟩ := regB_W hr
    have : 1 * 1 ≤ W * T := Int.mul_le_mul w1 t1 (by omega) (by omega)
    rw [h0] at hol; simp at hol; omega
  simp [c_spec_l20Tiled_L3, hne]
  refine ⟨_, _, ⟨W, T, out, q, rfl, by omega, w0, w6, t0, t24, by omega, rfl⟩, ?_⟩
  have htk : (bools out).take cs.length = bools out := List.take_of_length_le (by simp [hol])
  simp [regA, hol, htk]

end Go.Proofs.Dev

namespace Go.Proofs.Dev
set_option linter.unusedSimpArgs false
set_option maxRecDepth 100000

theorem box_set {bs : List Int} {p d q : Nat} {W T : Int} (hq : q ≤ p + d) (hW : 0 ≤ W) (hT : 0 ≤ T) :
    ∃ (W' T' : Int) (cs : List Bool), (if boxB W T = true then regA W T (boxL W T) else regA 0 0 []) = regA W' T' cs ∧ regSet bs p d (regA W' T' cs) [rdA bs q, .bot] := by
  by_cases h : boxB W T = true
  · rw [if_pos h]
    simp only [boxB, decide_eq_true_eq] at h
    exact ⟨W, T, boxL W T, rfl, W, T, boxL W T, q, rfl, by simp [boxL]; omega, by omega, by omega, by omega, by omega, hq, rfl⟩
  · rw [if_neg h]
    exact ⟨0, 0, [], rfl, 0, 0, [], q, rfl, by simp, by omega, by omega, by omega, by omega, hq, rfl⟩

abbrev n5 : List AV := [AV.v (.int .i64 2), AV.v (.int .i64 3), AV.v (.int .i64 4), AV.v (.int .i64 4), AV.v (.int .i64 6)]
abbrev n3 : List AV := [AV.v (.int .i64 2), AV.v (.int .i64 3), AV.v (.int .i64 4)]
theorem nget5 {x : Int} (h0 : 0 ≤ x) (h1 : x < 5) : ∃ v : Int, 0 ≤ v ∧ v ≤ 100 ∧ ∀ h : x.toNat < n5.length, n5[x.toNat]'h = .v (.int .i64 v) := by
  obtain rfl | rfl | rfl | rfl | rfl : x = 0 ∨ x = 1 ∨ x = 2 ∨ x = 3 ∨ x = 4 := by omega
  · exact ⟨2, by omega, by omega, fun _ => rfl⟩
  · exact ⟨3, by omega, by omega, fun _ => rfl⟩
  · exact ⟨4, by omega, by omega, fun _ => rfl⟩
  · exact ⟨4, by omega, by omega, fun _ => rfl⟩
  · exact ⟨6, by omega, by omega, fun _ => rfl⟩

theorem nget3 {x : Int} (h0 : 0 ≤ x) (h1 : x < 3) : ∃ v : Int, 0 ≤ v ∧ v ≤ 100 ∧ ∀ h : x.toNat < n3.length, n3[x.toNat]'h = .v (.int .i64 v) := by
  obtain rfl | rfl | rfl : x = 0 ∨ x = 1 ∨ x = 2 := by omega
  · exact ⟨2, by omega, by omega, fun _ => rfl⟩
  · exact ⟨3, by omega, by omega, fun _ => rfl⟩
  · exact ⟨4, by omega, by omega, fun _ => rfl⟩


set_option maxHeartbeats 4000000 in
theorem s_spec_l20Some (bs : List Int) (p : Nat) (n : Int) (hb : bs.length ≤ 2000) (hB : Byt bs) (hp : p < 2 ^ 37) (hn : n < 2 ^ 39) :
    SoundSet Try.prog n_spec_l20Some [rdA bs p, .v (.int .i64 n)] (regSet bs p 300) := by
  refine fn_okS (md := md5) (ms := [true, false]) k_spec_l20Some (by simp) ?_
  simp [c_spec_l20Some]
  refine call_onK (s_spec_l20Rd_pick bs p 4 hb hB (by omega)) [0] (by simp) (by simp) (by simp) ?_
  rintro _ _ ⟨x, x0, x1, rfl, rfl⟩
  by_cases c0 : x = 0
  · simp [c0]
    (repeat' first | omega | apply And.intro) <;>
    · refine call_onK (s_spec_l20Rd_pick bs (p + 1) 5 hb hB (by omega)) [0] (by simp) (by simp) (by simp) ?_
      rintro _ _ ⟨y, y0, y1, rfl, rfl⟩
      have y5 : y < 5 := by omega
      obtain ⟨v, v0, v1, hv⟩ := nget5 y0 y5
      simp [y0, y5, hv]
      (repeat' first | omega | apply And.intro) <;>
      · refine call_onK (s_spec_l20Rd_pick bs (p + 1 + 1) 3 hb hB (by omega)) [0] (by simp) (by simp) (by simp) ?_
        rintro _ _ ⟨z, z0, z1, rfl, rfl⟩
        have z3 : z < 3 := by omega
        obtain ⟨u, u0, u1, hu⟩ := nget3 z0 z3
        simp [y0, y5, hv, z0, z3, hu]
        (repeat' first | omega | apply And.intro) <;>
        · refine call_on (s_spec_RegionBox v u ⟨v0, v1⟩ ⟨u0, u1⟩) ?_
          obtain ⟨W', T', cs', e, hset⟩ := box_set (bs := bs) (p := p) (d := 300) (q := p + 1 + 1 + 1) (W := v) (T := u) (by omega) v0 u0
          rw [e]
          simp [regA]
          refine ⟨_, _, hset, ?_⟩
          simp [regA]
  by_cases c1 : x = 1
  · simp [c1]
    refine call_onK (s_spec_l20Region bs (p + 1) n hb hB (by omega) hn) [0] (by simp) (by simp) (by simp) ?_
    rintro _ _ ⟨W, T, cs, q, rfl, hcs, w0, w6, t0, t24, hq, rfl⟩
    simp [regA]
    refine ⟨_, _, ⟨W, T, cs, q, rfl, hcs, w0, w6, t0, t24, by omega, rfl⟩, ?_⟩
    simp [regA]
  simp [c0, c1]
  refine call_onK (s_spec_l20Tiled bs (p + 1) n hb hB (by omega) hn) [0] (by simp) (by simp) (by simp) ?_
  rintro _ _ ⟨W, T, cs, q, rfl, hcs, w0, w6, t0, t24, hq, rfl⟩
  simp [regA]
  refine ⟨_, _, ⟨W, T, cs, q, rfl, hcs, w0, w6, t0, t24, by omega, rfl⟩, ?_⟩
  simp [regA]

end Go.Proofs.Dev

namespace Go.Proofs.Dev
set_option linter.unusedSimpArgs false
set_option maxRecDepth 100000

abbrev n4 : List AV := [AV.v (.int .i64 2), AV.v (.int .i64 4), AV.v (.int .i64 4), AV.v (.int .i64 5)]
abbrev n2 : List AV := [AV.v (.int .i64 2), AV.v (.int .i64 3)]
theorem nget4 {x : Int} (h0 : 0 ≤ x) (h1 : x < 4) : ∃ v : Int, 0 ≤ v ∧ v ≤ 100 ∧ ∀ h : x.toNat < n4.length, n4[x.toNat]'h = .v (.int .i64 v) := by
  obtain rfl | rfl | rfl | rfl : x = 0 ∨ x = 1 ∨ x = 2 ∨ x = 3 := by omega
  · exact ⟨2, by omega, by omega, fun _ => rfl⟩
  · exact ⟨4, by omega, by omega, fun _ => rfl⟩
  · exact ⟨4, by omega, by omega, fun _ => rfl⟩
  · exact ⟨5, by omega, by omega, fun _ => rfl⟩
theorem nget2 {x : Int} (h0 : 0 ≤ x) (h1 : x < 2) : ∃ v : Int, 0 ≤ v ∧ v ≤ 100 ∧ ∀ h : x.toNat < n2.length, n2[x.toNat]'h = .v (.int .i64 v) := by
  obtain rfl | rfl : x = 0 ∨ x = 1 := by omega
  · exact ⟨2, by omega, by omega, fun _ => rfl⟩
  · exact ⟨3, by omega, by omega, fun _ => rfl⟩

set_option maxHeartbeats 4000000 in
theorem s_spec_l20Small (bs : List Int) (p : Nat) (n : Int) (hb : bs.length ≤ 2000) (hB : Byt bs) (hp : p < 2 ^ 36) (hn : n < 2 ^ 39) :
    SoundSet Try.prog n_spec_l20Small [rdA bs p, .v (.int .i64 n)] (regSet bs p 400) := by
  refine fn_okS (md := md5) (ms := [true, false]) k_spec_l20Small (by simp) ?_
  simp [c_spec_l20Small]
  refine call_onK (s_spec_l20Some bs p n hb hB (by omega) hn) [0] (by simp) (by simp) (by simp) ?_
  rintro _ _ ⟨W, T, cs, q, rfl, hcs, w0, w6, t0, t24, hq, rfl⟩
  simp [regA]
  refine call_on (s_spec_CellsMany W T cs (by omega)) ?_
  have fin : ∀ q2 : Nat, q2 ≤ p + 400 → regSet bs p 400 (regA W T cs) [rdA bs q2, .bot] := fun q2 h => ⟨W, T, cs, q2, rfl, hcs, w0, w6, t0, t24, h, rfl⟩
  generalize hm : (if regB W T cs = true then (manyOf cs : Int) else -1) = M
  by_cases hM : 16 < M
  · simp [hM]
    refine call_onK (s_spec_l20Rd_pick bs q 12 hb hB (by omega)) [0] (by simp) (by simp) (by simp) ?_
    rintro _ _ ⟨x, x0, x1, rfl, rfl⟩
    by_cases hx : 0 < x
    · simp [hx]
      (repeat' first | omega | apply And.intro) <;>
      · refine call_onK (s_spec_l20Rd_pick bs (q + 1) 4 hb hB (by omega)) [0] (by simp) (by simp) (by simp) ?_
        rintro _ _ ⟨y, y0, y1, rfl, rfl⟩
        have y4 : y < 4 := by omega
        obtain ⟨v, v0, v1, hv⟩ := nget4 y0 y4
        simp [y0, y4, hv]
        (repeat' first | omega | apply And.intro) <;>
        · refine call_onK (s_spec_l20Rd_pick bs (q + 1 + 1) 2 hb hB (by omega)) [0] (by simp) (by simp) (by simp) ?_
          rintro _ _ ⟨z, z0, z1, rfl, rfl⟩
          have z2 : z < 2 := by omega
          obtain ⟨u, u0, u1, hu⟩ := nget2 z0 z2
          simp [y0, y4, hv, z0, z2, hu]
          (repeat' first | omega | apply And.intro) <;>
          · refine call_on (s_spec_RegionBox v u ⟨v0, v1⟩ ⟨u0, u1⟩) ?_
            obtain ⟨W', T', cs', e, hset⟩ := box_set (bs := bs) (p := p) (d := 400) (q := q + 1 + 1 + 1) (W := v) (T := u) (by omega) v0 u0
            rw [e]
            simp [regA]
            refine ⟨_, _, hset, ?_⟩
            simp [regA]
    · simp [hx, c_spec_l20Small_T0]
      refine ⟨_, _, fin (q + 1) (by omega), ?_⟩
      simp [regA]
  · simp [hM, c_spec_l20Small_T0]
    refine ⟨_, _, fin q (by omega), ?_⟩
    simp [regA]

end Go.Proofs.Dev

namespace Go.Proofs.Dev
set_option linter.unusedSimpArgs false
set_option maxRecDepth 100000

/-- A puzzle is drawn. -/
def puzSet (bs : List Int) (p d : Nat) (r : AV) (ups : List AV) : Prop := ∃ (W T : Int) (cs : List Bool) (ds : List Int) (q : Nat), r = .tup [regA W T cs, .os 1 (ints ds)] ∧ cs.length ≤ 37 ∧ ds.length ≤ 37 ∧ q ≤ p + d ∧ ups = [rdA bs q, .bot]

def c_puzA : ACode :=
  (.seq (.reg [⟨(some 32), .mv, [.t 8], none⟩,
    ⟨(some 33), .un .not, [.t 32], none⟩,
    ⟨(some 34), .mv, [.t 33], none⟩,
    ⟨(some 35), .mv, [.t 0], (some (34, false))⟩,
    ⟨(some 36), .call 23 [], [.t 35, .c (.v (.int .i64 (3)))], (some (34, false))⟩,
    ⟨(some 37), .bin .eql 0, [.t 36, .c (.v (.int .i64 (0)))], (some (34, false))⟩,
    ⟨(some 38), .pick, [.t 34, .c (.v (.bool true)), .t 37], none⟩]) <|
  .cond (.t 38) (
    .seq (.reg [⟨(some 39), .bsl 1, [], none⟩,
      ⟨(some 9), .mv, [.t 39], none⟩]) <|
    .seq (.reg [⟨(some 40), .mv, [.t 0], none⟩,
      ⟨(some 41), .call 23 [], [.t 40, .c (.v (.int .i64 (6)))], none⟩,
      ⟨(some 42), .bin .add 0, [.c (.v (.int .i64 (2))), .t 41], none⟩,
      ⟨(some 10), .mv, [.t 42], none⟩]) <|
    .seq (.reg [⟨(some 11), .mv, [.c (.v (.int .i64 (0)))], none⟩]) <|
    .block 0 (
      .loop [(9, 1)] [0, 1, 4, 6, 9, 10, 11, 87] c_spec_l20Puzzle_L0)) (
    .skip))
def c_puz_T : ACode :=
  .seq (.seq (.reg [⟨(some 65), .mv, [.t 0], none⟩,
    ⟨(some 66), .mv, [.t 1], none⟩,
    ⟨(some 67), .bin .mul 0, [.c (.v (.int .i64 (2))), .t 66], none⟩,
    ⟨(some 68), .call 26 [], [.t 65, .t 67], none⟩,
    ⟨(some 69), .mv, [.t 68], none⟩,
    ⟨(some 70), .mv, [.t 9], (some (69, true))⟩,
    ⟨(some 71), .len false, [.t 70], (some (69, true))⟩,
    ⟨(some 72), .bin .gtr 0, [.t 71, .c (.v (.int .i64 (0)))], (some (69, true))⟩,
    ⟨(some 73), .pick, [.t 69, .t 72, .c (.v (.bool false))], none⟩]) <|
  .cond (.t 73) (
    .reg [⟨(some 74), .mv, [.t 9], none⟩,
      ⟨(some 75), .mv, [.t 0], none⟩,
      ⟨(some 76), .mv, [.t 9], none⟩,
      ⟨(some 77), .len false, [.t 76], none⟩,
      ⟨(some 78), .call 23 [], [.t 75, .t 77], none⟩,
      ⟨(some 79), .bsl 1, [.c (.v (.int .i64 (-1))), .c (.v (.int .i64 (7))), .c (.v (.int .i64 (0)))], none⟩,
      ⟨(some 80), .mv, [.t 0], none⟩,
      ⟨(some 81), .call 23 [], [.t 80, .c (.v (.int .i64 (3)))], none⟩,
      ⟨(some 82), .iadr 1, [.t 79, .t 81], none⟩,
      ⟨(some 83), .load false 1, [.t 82], none⟩,
      ⟨(some 84), .iadr 1, [.t 74, .t 78], none⟩,
      ⟨none, .store 1, [.t 84, .t 83], none⟩]) (
    .skip)) <|
  .seq (.reg [⟨(some 85), .load true 3, [.t 6], none⟩,
    ⟨(some 86), .mv, [.t 9], none⟩,
    ⟨none, .store 3, [.t 4, .t 85], none⟩,
    ⟨(some 5), .mv, [.t 86], none⟩]) <|
  .ret
theorem puz_parts : c_spec_l20Puzzle_T1 = .seq c_puzA c_puz_T := rfl

abbrev puzH (bs : List Int) (q : Nat) (W T : Int) (cs : List Bool) (ds : List Int) : Heap :=
  [some (.box [.sl 0 1 (u8s bs), .v (.int .i64 q)]), some (.box [.v (.int .i64 0), .v (.int .i64 0), .os 1 []]), some (.box [.v (.int .i64 W), .v (.int .i64 T), .ls 1 4 0 cs.length]), some (.arr 1 (ints ds)), some (.arr 1 (bools cs))]

abbrev nd3 : List AV := [AV.v (.int .i64 (-1)), AV.v (.int .i64 7), AV.v (.int .i64 0)]
theorem ndget {x : Int} (h0 : 0 ≤ x) (h1 : x < 3) : ∃ v : Int, ∀ h : x.toNat < nd3.length, nd3[x.toNat]'h = .v (.int .i64 v) := by
  obtain rfl | rfl | rfl : x = 0 ∨ x = 1 ∨ x = 2 := by omega
  · exact ⟨-1, fun _ => rfl⟩
  · exact ⟨7, fun _ => rfl⟩
  · exact ⟨0, fun _ => rfl⟩

theorem puz_tail (bs : List Int) (p q : Nat) (n W T : Int) (cs : List Bool) (ds : List Int) (hb : bs.length ≤ 2000) (hB : Byt bs) (hp : p < 2 ^ 35) (hn0 : 0 ≤ n) (hn : n < 2 ^ 20) (hcs : cs.length ≤ 37) (hds : ds.length ≤ 37) (hq : q ≤ p + 550) (E : ES)
    (e0 : get E 0 = .lp 0 0 0 0) (e1 : get E 1 = .v (.int .i64 n)) (e4 : get E 4 = .lp 0 1 0 0) (e6 : get E 6 = .lp 0 2 0 0) (e9 : get E 9 = .ls 1 3 0 ds.length) (e87 : get E 87 = .lp 0 0 0 0) :
    awp Try.prog md5 c_puz_T (FinS [RV.c 4 true 3, RV.t 5] 87 2 [true, false] (puzSet bs p 600)) E (puzH bs q W T cs ds) := by
  have fin : ∀ (ds2 : List Int) (q2 : Nat), ds2.length ≤ 37 → q2 ≤ p + 600 → puzSet bs p 600 (.tup [regA W T cs, .os 1 (ints ds2)]) [rdA bs q2, .bot] := fun ds2 q2 h1 h2 => ⟨W, T, cs, ds2, q2, rfl, hcs, h1, h2, rfl⟩
  simp [c_puz_T, e0, e1, e4, e6, e9, e87]
  refine ⟨by omega, ?_⟩
  refine call_onK (s_spec_l20Rd_odd bs q (2 * n) hb hB (by omega) (by omega)) [0] (by simp) (by simp) (by simp) ?_
  rintro _ _ ⟨b, q2, rfl, hq2, rfl⟩
  cases b with
  | false =>
    simp [get_purgeE, e0, e1, e4, e6, e9, e87]
    refine ⟨_, _, fin ds q2 hds (by omega), ?_⟩
    simp [regA, get_purgeE, e0, e1, e4, e6, e9, e87]
  | true =>
  by_cases hl : 0 < ds.length
  · simp [get_purgeE, e0, e1, e4, e6, e9, e87, hl]
    refine call_onK (s_spec_l20Rd_pick bs q2 ds.length hb hB (by omega)) [0] (by simp) (by simp) (by simp) ?_
    rintro _ _ ⟨x, x0, x1, rfl, rfl⟩
    simp [get_purgeE, e0, e1, e4, e6, e9, e87, hl]
    refine call_onK (s_spec_l20Rd_pick bs (q2 + 1) 3 hb hB (by omega)) [0] (by simp) (by simp) (by simp) ?_
    rintro _ _ ⟨y, y0, y1, rfl, rfl⟩
    have y3 : y < 3 := by omega
    obtain ⟨v, hv⟩ := ndget y0 y3
    have x3 : x < ds.length := by omega
    simp [get_purgeE, e0, e1, e4, e6, e9, e87, hl, y0, y3, hv, x0, x3, ints_set]
    refine ⟨_, _, fin (ds.set x.toNat v) (q2 + 1 + 1) (by simpa using hds) (by omega), ?_⟩
    have htk : (ints (ds.set x.toNat v)).take ds.length = ints (ds.set x.toNat v) := List.take_of_length_le (by simp)
    simp [regA, get_purgeE, e0, e1, e4, e6, e9, e87, htk]
  · have hl' : ds.length = 0 := by omega
    simp [get_purgeE, e0, e1, e4, e6, e9, e87, hl, hl']
    refine ⟨_, _, fin [] q2 (by simp) (by omega), ?_⟩
    simp [regA, get_purgeE, e0, e1, e4, e6, e9, e87]

theorem bools_getI {cs : List Bool} {i : Nat} (h : i < (bools cs).length) : (bools cs)[i]'h = .v (.bool (atb cs i)) := by
  have h2 : i < cs.length := by simpa using h
  simp [bools, atb, h2]

theorem puz_gen (bs : List Int) (p q : Nat) (n W T : Int) (cs : List Bool) (ds : List Int) (hb : bs.length ≤ 2000) (hB : Byt bs) (hp : p < 2 ^ 35) (hn0 : 0 ≤ n) (hn : n < 2 ^ 20) (hcs : cs.length ≤ 37) (hq : q ≤ p + 500) (wide : Int) (hw : 0 ≤ wide ∧ wide ≤ 100) (Qc : AExit → ES → Heap → Prop)
    (hend : ∀ (q2 : Nat) (ds : List Int) (b : Bool), q2 ≤ p + 540 → ds.length ≤ 37 → Qc (.exit 0) [(47, .v (.bool b)), (46, .v (.int .i64 cs.length)), (45, .ls 1 4 0 cs.length), (44, .lp 0 2 0 2), (43, .v (.int .i64 cs.length)), (0, .lp 0 0 0 0), (1, .v (.int .i64 n)), (4, .lp 0 1 0 0), (6, .lp 0 2 0 0), (9, .ls 1 3 0 ds.length), (10, .v (.int .i64 wide)), (11, .v (.int .i64 cs.length)), (87, .lp 0 0 0 0)] (puzH bs q2 W T cs ds)) :
    loopNode [(9, 1)] [0, 1, 4, 6, 9, 10, 11, 87] (awp Try.prog md5 c_spec_l20Puzzle_L0) Qc
      [(0, .lp 0 0 0 0), (1, .v (.int .i64 n)), (4, .lp 0 1 0 0), (6, .lp 0 2 0 0), (9, .ls 1 3 0 0), (10, .v (.int .i64 wide)), (11, .v (.int .i64 0)), (87, .lp 0 0 0 0)] (puzH bs q W T cs []) := by
  refine loop_by (fun m E H => ∃ (i q2 : Nat) (ds : List Int), m = cs.length - i ∧ i ≤ cs.length ∧ ds.length = i ∧ q2 ≤ q + i ∧ H = puzH bs q2 W T cs ds ∧
    E = [(0, .lp 0 0 0 0), (1, .v (.int .i64 n)), (4, .lp 0 1 0 0), (6, .lp 0 2 0 0), (9, .ls 1 3 0 ds.length), (10, .v (.int .i64 wide)), (11, .v (.int .i64 i)), (87, .lp 0 0 0 0)]) cs.length ⟨0, q, [], rfl, by omega, rfl, by omega, by simp, by simp⟩ ?_
  rintro J hJ m E H ⟨i, q2, ds, rfl, hi, hdl, hq2, rfl, rfl⟩
  by_cases h : i < cs.length
  case neg =>
    have : i = cs.length := by omega
    subst this
    simp [c_spec_l20Puzzle_L0]
    exact hend q2 ds false (by omega) (by omega)
  have next : ∀ (q3 : Nat) (v : Int), q3 ≤ q2 + 1 → again J (cs.length - i) [(0, .lp 0 0 0 0), (1, .v (.int .i64 n)), (4, .lp 0 1 0 0), (6, .lp 0 2 0 0), (9, .ls 1 3 0 (ds.length + 1)), (10, .v (.int .i64 wide)), (11, .v (.int .i64 (i + 1))), (87, .lp 0 0 0 0)]
      [some (.box [.sl 0 1 (u8s bs), .v (.int .i64 q3)]), some (.box [.v (.int .i64 0), .v (.int .i64 0), .os 1 []]), some (.box [.v (.int .i64 W), .v (.int .i64 T), .ls 1 4 0 cs.length]), some (.arr 1 (ints ds ++ [.v (.int .i64 v)])), some (.arr 1 (bools cs))] := by
    intro q3 v h3
    exact ⟨_, by omega, hJ _ _ _ ⟨i + 1, q3, ds ++ [v], rfl, h, by simp [hdl], by omega, by simp [ints_append, ints_one], by simp⟩⟩
  cases hc : atb cs i with
  | true =>
    simp [c_spec_l20Puzzle_L0, h, hc, bools_getI]
    refine call_onK (s_spec_l20Rd_pick bs q2 (if 7 < wide then 7 else wide) hb hB (by omega)) [0] (by simp) (by simp) (by simp) ?_
    rintro _ _ ⟨x, x0, x1, rfl, rfl⟩
    have n2 := next (q2 + 1) x (by omega)
    simp only [Int.natCast_add, Int.natCast_one] at n2
    simp
    (repeat' first | omega | assumption | apply And.intro)
  | false =>
    have n2 := next q2 (-1) (by omega)
    simp [c_spec_l20Puzzle_L0, h, hc, bools_getI]
    (repeat' first | omega | assumption | apply And.intro)

theorem puz_T1 (bs : List Int) (p q : Nat) (n W T : Int) (cs : List Bool) (ds : List Int) (ok : Bool) (hb : bs.length ≤ 2000) (hB : Byt bs) (hp : p < 2 ^ 35) (hn0 : 0 ≤ n) (hn : n < 2 ^ 20) (hcs : cs.length ≤ 37) (hds : ds.length ≤ 37) (hq : q ≤ p + 450) :
    awp Try.prog md5 c_spec_l20Puzzle_T1 (FinS [RV.c 4 true 3, RV.t 5] 87 2 [true, false] (puzSet bs p 600))
      [(0, .lp 0 0 0 0), (1, .v (.int .i64 n)), (4, .lp 0 1 0 0), (6, .lp 0 2 0 0), (8, .v (.bool ok)), (9, .ls 1 3 0 ds.length), (87, .lp 0 0 0 0)] (puzH bs q W T cs ds) := by
  rw [puz_parts]
  cases ok with
  | false =>
    simp [c_puzA]
    refine call_onK (s_spec_l20Rd_pick bs q 6 hb hB (by omega)) [0] (by simp) (by simp) (by simp) ?_
    rintro _ _ ⟨x, x0, x1, rfl, rfl⟩
    simp
    refine ⟨by omega, ?_⟩
    refine puz_gen bs p (q + 1) n W T cs [] hb hB hp hn0 hn hcs (by omega) (2 + x) (by omega) _ ?_
    intro q2 ds2 b h1 h2
    simp
    exact puz_tail bs p q2 n W T cs ds2 hb hB hp hn0 hn hcs h2 (by omega) _ rfl rfl rfl rfl rfl rfl
  | true =>
    simp [c_puzA]
    refine call_onK (s_spec_l20Rd_pick bs q 3 hb hB (by omega)) [0] (by simp) (by simp) (by simp) ?_
    rintro _ _ ⟨y, y0, y1, rfl, rfl⟩
    by_cases c0 : y = 0
    · simp [c0]
      refine call_onK (s_spec_l20Rd_pick bs (q + 1) 6 hb hB (by omega)) [0] (by simp) (by simp) (by simp) ?_
      rintro _ _ ⟨x, x0, x1, rfl, rfl⟩
      simp
      refine ⟨by omega, ?_⟩
      refine puz_gen bs p (q + 1 + 1) n W T cs [] hb hB hp hn0 hn hcs (by omega) (2 + x) (by omega) _ ?_
      intro q2 ds2 b h1 h2
      simp
      exact puz_tail bs p q2 n W T cs ds2 hb hB hp hn0 hn hcs h2 (by omega) _ rfl rfl rfl rfl rfl rfl
    · simp [c0]
      exact puz_tail bs p (q + 1) n W T cs ds hb hB hp hn0 hn hcs hds (by omega) _ rfl rfl rfl rfl rfl rfl

theorem puz_T2 (bs : List Int) (p q : Nat) (n W T : Int) (cs : List Bool) (ls : List Int) (ok : Bool) (hb : bs.length ≤ 2000) (hB : Byt bs) (hp : p < 2 ^ 35) (hn0 : 0 ≤ n) (hn : n < 2 ^ 20) (hcs : cs.length ≤ 37) (hls : ls.length ≤ 37) (hq : q ≤ p + 420) :
    awp Try.prog md5 c_spec_l20Puzzle_T2 (FinS [RV.c 4 true 3, RV.t 5] 87 2 [true, false] (puzSet bs p 600))
      [(0, .lp 0 0 0 0), (1, .v (.int .i64 n)), (4, .lp 0 1 0 0), (6, .lp 0 2 0 0), (7, .ls 1 3 0 ls.length), (8, .v (.bool ok)), (87, .lp 0 0 0 0)] (puzH bs q W T cs ls) := by
  simp [c_spec_l20Puzzle_T2]
  (repeat' first | omega | apply And.intro) <;>
  · refine call_onK (s_spec_l20Rd_pick bs q 28 hb hB (by omega)) [0] (by simp) (by simp) (by simp) ?_
    rintro _ _ ⟨x, x0, x1, rfl, rfl⟩
    simp
    refine call_on (s_spec_MakePuzzle W T cs ls x (by omega) (by omega)) ?_
    have hml := mkI_length W T cs ls x
    generalize mkI W T cs ls x = ds at *
    simp
    exact puz_T1 bs p (q + 1) n W T cs ds ok hb hB hp hn0 hn hcs (by omega) (by omega)

set_option maxHeartbeats 4000000 in
theorem s_spec_l20Puzzle (bs : List Int) (p : Nat) (n : Int) (hb : bs.length ≤ 2000) (hB : Byt bs) (hp : p < 2 ^ 35) (hn0 : 0 ≤ n) (hn : n < 2 ^ 20) :
    SoundSet Try.prog n_spec_l20Puzzle [rdA bs p, .v (.int .i64 n)] (puzSet bs p 600) := by
  refine fn_okS (md := md5) (ms := [true, false]) k_spec_l20Puzzle (by simp) ?_
  simp [c_spec_l20Puzzle]
  refine ⟨by omega, ?_⟩
  refine call_onK (s_spec_l20Small bs p (2 * n) hb hB (by omega) (by omega)) [0] (by simp) (by simp) (by simp) ?_
  rintro _ _ ⟨W, T, cs, q, rfl, hcs, w0, w6, t0, t24, hq, rfl⟩
  have hmax : ∀ x : Int, 0 ≤ x → 0 ≤ x ∧ 1 ≤ (if tmI W T cs < 1 then 1 else tmI W T cs) := by
    intro x hx; split <;> omega
  simp [regA]
  (repeat' first | omega | apply And.intro) <;>
  · refine call_onK (s_spec_l20Rd_pick bs q 256 hb hB (by omega)) [0] (by simp) (by simp) (by simp) ?_
    rintro _ _ ⟨x, x0, x1, rfl, rfl⟩
    simp
    (repeat' first | omega | apply And.intro) <;>
    · refine call_on (s_spec_TilingsMany W T cs (by omega)) ?_
      generalize tmI W T cs = M at *
      simp [hmax x x0]
      refine call_onK (s_spec_TilingOf W T cs (x % if M < 1 then 1 else M) (by omega)) [] (by simp) (by simp) (by simp) ?_
      rintro _ _ ⟨ls, ok, hls, rfl, rfl⟩
      simp
      exact puz_T2 bs p (q + 1) n W T cs ls ok hb hB hp hn0 hn hcs (by omega) (by omega)

end Go.Proofs.Dev

namespace Go.Proofs.Dev
set_option linter.unusedSimpArgs false
set_option maxRecDepth 100000

end Go.Proofs.Dev

namespace Go.Proofs.Dev
set_option linter.unusedSimpArgs false
set_option maxRecDepth 100000

end Go.Proofs.Dev

namespace Go.Proofs.Dev
set_option linter.unusedSimpArgs false
set_option maxRecDepth 100000

def drawP (r : AV) (ups : List AV) : Prop := ∃ (W T : Int) (cs : List Bool) (ds : List Int), r = .tup [regA W T cs, .os 1 (ints ds)] ∧ cs.length ≤ 37 ∧ ds.length ≤ 37 ∧ ups = [.bot]

theorem s_spec_DrawSolutionsMany (bs : List Int) (hb : bs.length ≤ 2 ^ 60) (hB : Byt bs) : SoundSet Try.prog n_spec_DrawSolutionsMany [.sl 0 1 (u8s bs)] drawP := by
  refine fn_okS (md := md5) (ms := [false]) k_spec_DrawSolutionsMany (by simp) ?_
  simp [c_spec_DrawSolutionsMany]
  refine call_on (s_spec_l20Open bs hb) ?_
  simp
  refine call_onK (s_spec_l20Puzzle (bs.take 2000) 0 9 (by simp; omega) (byt_take hB 2000) (by omega) (by omega) (by omega)) [1] (by simp) (by simp) (by simp) ?_
  rintro _ _ ⟨W, T, cs, ds, q, rfl, hcs, hds, hq, rfl⟩
  simp [regA]
  refine ⟨_, _, ⟨W, T, cs, ds, rfl, hcs, hds, rfl⟩, ?_⟩
  simp [regA]
end Go.Proofs.Dev

namespace Go.Proofs.Dev
open Go.RowKit Go.Maps

def keyB (cov : List Bool) : List UInt8 := cov.map fun b => if b then 49 else 48
def keyL (c : Nat) (cov : List Bool) : List UInt8 := UInt8.ofNat c :: keyB (cov.drop c)
def bytesV (word : List UInt8) : List Value := word.map fun c => .int .u8 (c.toNat : Int)
/-- Which cells are still to be covered. -/
def gB (cs cov : List Bool) : Nat → Bool := fun i => cs.getD i false && !(cov.getD i false)
def valB (W T : Int) (cs : List Bool) (c : Nat) (cov : List Bool) : Nat := cntF W T (cs.length - c) c (gB cs cov)
/-- What is known is right. -/
def Good (W T : Int) (cs : List Bool) (D : DataW Unit) : Prop :=
  ∀ (c : Nat) (cov : List Bool), c < cs.length → cov.length = cs.length → Maps.has D (.string (keyL c cov)) = true → D.atKey (.string (keyL c cov)) (.lit (.int .i64 0)) = .lit (.int .i64 (valB W T cs c cov))

theorem keyB_inj : ∀ {a b : List Bool}, keyB a = keyB b → a = b
  | [], [], _ => rfl
  | [], _ :: _, h => by simp [keyB] at h
  | _ :: _, [], h => by simp [keyB] at h
  | x :: a, y :: b, h => by
    have h' : (if x then (49 : UInt8) else 48) :: keyB a = (if y then (49 : UInt8) else 48) :: keyB b := h
    obtain ⟨h1, h2⟩ := List.cons.inj h'
    rw [keyB_inj h2]
    cases x <;> cases y <;> simp at h1 ⊢

theorem key_val {W T : Int} {cs : List Bool} {c c' : Nat} {cov cov' : List Bool} (h36 : cs.length ≤ 36) (hc : c < cs.length) (hc' : c' < cs.length) (h : keyL c cov = keyL c' cov') : valB W T cs c cov = valB W T cs c' cov' := by
  obtain ⟨h1, h2⟩ := List.cons.inj h
  have e : c = c' := by
    have := congrArg UInt8.toNat h1
    simp at this
    omega
  subst e
  have e2 := keyB_inj h2
  refine cntF_congr _ _ fun i hi => ?_
  have : cov.getD i false = cov'.getD i false := by
    have := congrArg (fun l => l.getD (i - c) false) e2
    simp only [List.getD_eq_getElem?_getD, List.getElem?_drop, show c + (i - c) = i by omega] at this ⊢
    exact this
  simp only [gB, this]

theorem good_none (W T : Int) (cs : List Bool) : Good W T cs (.map []) := fun c cov _ _ h => by simp [Maps.has] at h

theorem good_put {W T : Int} {cs : List Bool} {D : DataW Unit} (hD : IsMap D) (h36 : cs.length ≤ 36) {c : Nat} {cov : List Bool} (hc : c < cs.length) (h : Good W T cs D) :
    Good W T cs (D.put (.string (keyL c cov)) (.lit (.int .i64 (valB W T cs c cov)))) := by
  intro c' cov' hc' hl' hh
  by_cases e : keyL c' cov' = keyL c cov
  · rw [e, atKey_put_same hD (by trivial)]
    rw [key_val h36 hc' hc e]
  · have e' : (Lit.string (keyL c' cov')) ≠ Lit.string (keyL c cov) := fun he => e (Lit.string.inj he)
    rw [atKey_put_other e']
    rw [has_put_other e'] at hh
    exact h c' cov' hc' hl' hh
end Go.Proofs.Dev
namespace Go.Proofs.Dev
open Go.RowKit Go.Maps
/-- The key so far. -/
def keyP (c : Nat) (cov : List Bool) (j : Nat) : List UInt8 := UInt8.ofNat c :: keyB ((cov.drop c).take j)
theorem keyP_all {c : Nat} {cov : List Bool} {j : Nat} (h : cov.length ≤ c + j) : keyP c cov j = keyL c cov := by
  unfold keyP keyL
  rw [List.take_of_length_le (by rw [List.length_drop]; omega)]
theorem keyP_len {c : Nat} {cov : List Bool} {j : Nat} (h : c + j ≤ cov.length) : (keyP c cov j).length = j + 1 := by
  simp only [keyP, keyB, List.length_cons, List.length_map, List.length_take, List.length_drop]
  omega
theorem keyP_succ {c : Nat} {cov : List Bool} {j : Nat} (h : c + j < cov.length) {x : Bool} (hx : cov.getD (c + j) false = x) : keyP c cov (j + 1) = keyP c cov j ++ [if x then 49 else 48] := by
  have hd : j < (cov.drop c).length := by rw [List.length_drop]; omega
  have e : (cov.drop c)[j] = x := by
    rw [List.getElem_drop]
    simpa [List.getD_eq_getElem?_getD, List.getElem?_eq_getElem h] using hx
  unfold keyP
  rw [List.take_succ_eq_append_getElem hd, e]
  simp [keyB]
theorem keyP_zero (c : Nat) (cov : List Bool) (h : c < 256) : bytesV (keyP c cov 0) = [.int .u8 (c : Int)] := by
  have : (UInt8.ofNat c).toNat = c := by simp; omega
  simp [keyP, bytesV, keyB, this]
  try omega
theorem bytesV_append (a b : List UInt8) : bytesV (a ++ b) = bytesV a ++ bytesV b := by simp [bytesV]
theorem grown_refl (w : World) (r : Option Nat) : w.grownBy w r := ⟨rfl, rfl, rfl, Nat.le_refl _, fun _ _ _ => rfl⟩
theorem grown_new {w w1 w2 : World} {row : Option Nat} (h : w.grownBy w1 none) (h2 : w1.grownBy w2 row) (hr : ∀ b, row = some b → w.heap.size ≤ b) : w.grownBy w2 none :=
  ⟨h2.os.trans h.os, h2.tape.trans h.tape, h2.output.trans h.output, Nat.le_trans h.size h2.size, fun b hb _ => (h2.block b (Nat.lt_of_lt_of_le hb h.size) (fun e => by have := hr b e.symm; omega)).trans (h.block b hb (by simp))⟩
theorem grown_alloc {w w1 : World} (h : w.grownBy w1 none) (o : Obj) : w.grownBy (w1.alloc o) none := grown_new (row := none) h (World.grownBy_alloc w1 o none) (fun _ e => by cases e)
theorem own_shape {w : World} {base e size n : Nat} {v : Value} {xs : List Value} (h : w.ownsRow base e size v (n + 1) xs) : ∃ g cap, v = .slice (some ⟨g, 0, none⟩) (n + 1) cap := by
  rcases h.2 with ⟨_, h0⟩ | ⟨g, cap, _, e, _⟩
  · omega
  · exact ⟨g, cap, e⟩
end Go.Proofs.Dev

namespace Go.Proofs.Dev
open Go.RowKit Go.Maps
set_option linter.unusedSimpArgs false

/-- What a direction adds. -/
def partB (W T : Int) (cs : List Bool) (k : Nat) (cov : List Bool) (way : Nat) : Nat :=
  if 0 ≤ stepI W T k way ∧ gB cs cov (stepI W T k way).toNat = true then cntF W T (cs.length - (k + 1)) (k + 1) (clr (gB cs cov) (stepI W T k way).toNat) else 0
def accB (W T : Int) (cs : List Bool) (k : Nat) (cov : List Bool) : Nat → Nat
  | 0 => 0
  | q + 1 => accB W T cs k cov q + partB W T cs k cov (q + 1)

theorem acc_val {W T : Int} {cs cov : List Bool} {k : Nat} (hW : 1 ≤ W) (hk : k < cs.length) (hg : gB cs cov k = true) : accB W T cs k cov 2 = valB W T cs k cov := by
  show 0 + partB W T cs k cov 1 + partB W T cs k cov 2 = _
  rw [Nat.zero_add, valB, show cs.length - k = (cs.length - (k + 1)) + 1 by omega, cntF, if_pos hg]
  congr 1
  · unfold partB
    by_cases h : 0 ≤ stepI W T k 1
    · have e := stepE h
      have e' : (stepI W T k ((1 : Nat) : Int)).toNat = k + 1 := by rw [show ((1 : Nat) : Int) = 1 from rfl, e]; omega
      rw [e']; rfl
    · rw [if_neg (fun x => h x.1), if_neg (fun x => h x.1)]
  · unfold partB
    by_cases h : 0 ≤ stepI W T k 2
    · have e := stepN hW h
      have e' : (stepI W T k ((2 : Nat) : Int)).toNat = k + W.toNat := by rw [show ((2 : Nat) : Int) = 2 from rfl, e]; omega
      rw [e']; rfl
    · rw [if_neg (fun x => h x.1), if_neg (fun x => h x.1)]

theorem part_le (W T : Int) (cs cov : List Bool) (k way : Nat) (h36 : cs.length ≤ 36) : partB W T cs k cov way ≤ 68719476736 := by
  unfold partB
  split
  · refine Nat.le_trans (cntF_le _ _ _) ?_
    exact Nat.le_trans (Nat.pow_le_pow_right (by omega) (show cs.length - (k + 1) ≤ 36 by omega)) (by decide)
  · omega
theorem acc_le (W T : Int) (cs cov : List Bool) (k : Nat) (h36 : cs.length ≤ 36) : ∀ q, accB W T cs k cov q ≤ q * 68719476736
  | 0 => by simp [accB]
  | q + 1 => by
    have := acc_le W T cs cov k h36 q
    have := part_le W T cs cov k (q + 1) h36
    rw [accB, Nat.succ_mul]; omega

theorem part_no {W T : Int} {cs cov : List Bool} {k way : Nat} (h : ¬ 0 ≤ stepI W T k way) : partB W T cs k cov way = 0 := if_neg (fun x => h x.1)
theorem part_no2 {W T : Int} {cs cov : List Bool} {k way t : Nat} (e : stepI W T k way = t) (h : gB cs cov t = false) : partB W T cs k cov way = 0 := by
  refine if_neg (fun x => ?_)
  rw [e] at x
  have := x.2
  simp [h] at this
theorem part_yes {W T : Int} {cs cov : List Bool} {k way t : Nat} (hl : cov.length = cs.length) (ht : t < cs.length) (_hk : k < cs.length) (e : stepI W T k way = t) (h : gB cs cov t = true) :
    partB W T cs k cov way = valB W T cs (k + 1) ((cov.set k true).set t true) := by
  unfold partB
  rw [if_pos (by rw [e]; exact ⟨by omega, by simpa using h⟩)]
  unfold valB
  refine cntF_congr _ _ fun i hi => ?_
  have e2 : (stepI W T k way).toNat = t := by rw [e]; simp
  rw [e2]
  simp only [gB, clr]
  by_cases h1 : i = t
  · subst h1
    simp [List.getD_eq_getElem?_getD, hl, ht]
  · have h2 : i ≠ k := by omega
    simp [List.getD_eq_getElem?_getD, List.getElem?_set_ne (Ne.symm h1), List.getElem?_set_ne (Ne.symm h2), h1]
end Go.Proofs.Dev
namespace Go.Proofs.Dev
open Go.RowKit Go.Maps
theorem grown_some {w w1 w2 : World} {b : Nat} (h : w.grownBy w1 none) (h2 : w1.grownBy w2 (some b)) : w.grownBy w2 (some b) :=
  ⟨h2.os.trans h.os, h2.tape.trans h.tape, h2.output.trans h.output, Nat.le_trans h.size h2.size, fun i hi hb => (h2.block i (Nat.lt_of_lt_of_le hi h.size) hb).trans (h.block i hi (by simp))⟩
theorem grown_some2 {w w1 w2 : World} {b : Nat} (h : w.grownBy w1 (some b)) (h2 : w1.grownBy w2 (some b)) : w.grownBy w2 (some b) :=
  ⟨h2.os.trans h.os, h2.tape.trans h.tape, h2.output.trans h.output, Nat.le_trans h.size h2.size, fun i hi hb => (h2.block i (Nat.lt_of_lt_of_le hi h.size) hb).trans (h.block i hi hb)⟩
theorem grown_weak {w w1 : World} {b : Nat} (h : w.grownBy w1 none) : w.grownBy w1 (some b) := ⟨h.os, h.tape, h.output, h.size, fun i hi _ => h.block i hi (by simp)⟩
theorem map_none {w : World} {P : Program} {k : TypeId} {R : Value → Option (DataW Unit × List MemPlace)} {b n : Nat} {D : DataW Unit} (h : w.ownsMap P k R b n D) (o : Nat) : w.cell? ⟨b, o, none⟩ = none := by
  obtain ⟨es, clock, hb, _⟩ := h
  simp [World.cell?, hb]
theorem two_cells (w : World) (q : Nat) (hq : q < 2) : (w.alloc (.cells #[.int .i64 1, .int .i64 2] 3)).cell? ⟨w.heap.size, q, none⟩ = some (.int .i64 ((q : Int) + 1)) := by
  have hb := heap_alloc_new w (.cells #[.int .i64 1, .int .i64 2] 3)
  rcases (show q = 0 ∨ q = 1 by omega) with rfl | rfl <;> · simp only [World.cell?, hb]; rfl
theorem grown_set {w w1 : World} (h : w.grownBy w1 none) {a : Addr} (ha : w.heap.size ≤ a.block) (v : Value) : w.grownBy (w1.setCell a v) none :=
  ⟨h.os, h.tape, h.output, by simpa using h.size, fun i hi _ => (Below.heap_setCell _ _ _ _ (by omega)).trans (h.block i hi (by simp))⟩
end Go.Proofs.Dev
namespace Go.Proofs.Dev
open Go.RowKit Go.Maps
theorem set_cells {w : World} {g p : Nat} {cov : List Bool} {k : Nat} (hk : k < cov.length) (h : ∀ (j : Nat) (x : Bool), cov[j]? = some x → w.cell? ⟨g, p + j, none⟩ = some (.bool x)) :
    ∀ (j : Nat) (x : Bool), (cov.set k true)[j]? = some x → (w.setCell ⟨g, p + k, none⟩ (.bool true)).cell? ⟨g, p + j, none⟩ = some (.bool x) := by
  intro j x hx
  by_cases e : j = k
  · subst e
    rw [List.getElem?_set_self hk] at hx
    cases hx
    exact World.cell?_setCell_same _ _ _ (h j cov[j] (List.getElem?_eq_getElem hk))
  · rw [List.getElem?_set_ne (Ne.symm e)] at hx
    rw [World.cell?_setCell_other _ _ _ _ (by intro he; simp at he; try omega)]
    exact h j x hx
theorem step_ne {W T : Int} {k q t : Nat} (hW : 1 ≤ W) (hq : q < 2) (h : stepI W T k ((q : Int) + 1) = t) : t ≠ k := by
  rcases (show q = 0 ∨ q = 1 by omega) with rfl | rfl
  · have h' : stepI W T k 1 = t := h
    have := stepE (W := W) (T := T) (c := k) (by rw [h']; omega)
    omega
  · have h' : stepI W T k 2 = t := h
    have := stepN (T := T) (c := k) hW (by rw [h']; omega)
    omega
end Go.Proofs.Dev
