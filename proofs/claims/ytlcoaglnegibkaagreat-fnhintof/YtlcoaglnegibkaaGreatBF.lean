/- Contracts of the functions of the program over slots and rows, each proved against the program itself; no condition beyond those that each theorem names. -/
import Derived.Test.YtlcoaglnegibkaaGreatBD
import Derived.Test.YtlcoaglnegibkaaGreatJ
import Derived.Test.YtlcoaglnegibkaaGreatAH
import Derived.Test.YtlcoaglnegibkaaGreatBE

set_option linter.unusedSimpArgs false
set_option linter.unusedVariables false

namespace Go.Proofs.Dev
set_option linter.unusedSimpArgs false
set_option maxRecDepth 100000

/-- Who takes ownership: of the reader. -/
@[simp] def md5 (f : Nat) : List Bool := if f = 53 ∨ f = 56 ∨ f = 112 ∨ f = 113 ∨ f = 94 ∨ f = 999999 ∨ f = 82 ∨ f = 51 then [true, false] else if f = 25 ∨ f = 999999 ∨ f = 26 ∨ f = 6 ∨ f = 15 ∨ f = 20 ∨ f = 999999 ∨ f = 999999 ∨ f = 999999 ∨ f = 999999 ∨ f = 999999 ∨ f = 999999 ∨ f = 999999 ∨ f = 999999 ∨ f = 999999 then [true] else if f = 999999 then [false, true] else md0 f

/-- The reader: its bytes, its place. -/
def rdC (bs : List Int) (p : Nat) : List AV := [.sl 0 1 (u8s bs), .v (.int .i64 p)]
def rdA (bs : List Int) (p : Nat) : AV := .op (rdC bs p)

attribute [simp] anil rdA rdC

theorem call_onK {P : Program} {K : ES → Heap → Prop} {E : ES} {H : Heap} {f : Nat} {ms : List Bool} {avs : List AV} {dst : Option Nat} {ts : List AV} {post : AV → List AV → Prop} (hs : SoundSet P f ts post) (ks : List Nat)
    (h1 : ownL H avs ms = some ks) (h2 : ks.Nodup) (h3 : treesL H (killAll ks H) ks.isEmpty avs ms = some ts) (h4 : ∀ r ups, post r ups → ∃ p, backL avs ms ups (thaw r H.length).2.2 = some p ∧
      K (putE (if ks.isEmpty then E else purgeE E) dst (thaw r H.length).1) (setRows ((thaw r H.length).2.1 ++ p.1) (padN (p.2 - H.length) (killAll ks (if ks.isEmpty then H else purgeH H))))) : callNode P f ms avs E H dst K :=
  call_onS hs ⟨ks, h1, h2, h3, h4⟩

/-- A number below n is drawn. -/
def pickSet (bs : List Int) (n : Int) (p : Nat) (r : AV) (ups : List AV) : Prop := ∃ x : Int, 0 ≤ x ∧ (x < n ∨ x = 0) ∧ r = .v (.int .i64 x) ∧ ups = [rdA bs (p + 1), .bot]

theorem s_spec_l20Rd_pick (bs : List Int) (p : Nat) (n : Int) (hb : bs.length ≤ 2000) (hB : Byt bs) (hp : p < 2 ^ 40) :
    SoundSet Tryz.prog n_spec_l20Rd_pick [rdA bs p, .v (.int .i64 n)] (pickSet bs n p) := by
  refine fn_okBG (md := md5) (ms := [true, false]) k_spec_l20Rd_pick (by simp) (F := FinS [.t 4] 99 2 [true, false] (pickSet bs n p)) (fun _ _ _ h => h) ?_
  have p1 : ((p : Int) + 1 - 1) = p := by omega
  have fin : ∀ x : Int, 0 ≤ x → (x < n ∨ x = 0) → ∀ E : ES, get E 4 = .v (.int .i64 x) → get E 99 = .lp 0 0 0 0 → get E 100 = .v (.int .i64 n) →
      FinS [RV.t 4] 99 2 [true, false] (pickSet bs n p) AExit.ret E [some (Row.box [AV.sl 0 1 (u8s bs), AV.v (Value.int IntKind.i64 ((p : Int) + 1))])] := by
    intro x h0 h1 E e4 e99 e100
    refine ⟨.v (.int .i64 x), [rdA bs (p + 1), .bot], ⟨x, h0, h1, rfl, rfl⟩, ?_⟩
    simp [e4, e99, e100, rdA, rdC]
  by_cases hn : n < 1
  · simp [c_spec_l20Rd_pick_E, rdA, rdC, hn]
    exact ⟨by omega, fin 0 (by omega) (.inr rfl) _ (by simp) (by simp) (by simp)⟩
  by_cases hz : bs = []
  · subst hz
    simp [c_spec_l20Rd_pick_E, rdA, rdC, hn]
    exact ⟨by omega, fin 0 (by omega) (.inr rfl) _ (by simp) (by simp) (by simp)⟩
  have hz2 : ¬ (bs.length : Int) = 0 := by
    intro h; exact hz (List.eq_nil_of_length_eq_zero (by omega))
  by_cases hl : p < bs.length
  · have hb1 := byt_at hB p
    simp [c_spec_l20Rd_pick_E, rdA, rdC, hn, hz, hl, hz2, p1]
    refine ⟨by omega, by omega, by omega, by omega, fin (ati bs p % n) (Int.emod_nonneg _ (by omega)) (.inl (Int.emod_lt_of_pos _ (by omega))) _ (by simp) (by simp) (by simp)⟩
  have m1 := Int.emod_nonneg (p : Int) hz2
  have m2 := Int.emod_lt_of_pos (p : Int) (show 0 < (bs.length : Int) by omega)
  have m3 := Int.emod_nonneg ((p : Int) * 7 + 3) hz2
  have m4 := Int.emod_lt_of_pos ((p : Int) * 7 + 3) (show 0 < (bs.length : Int) by omega)
  have m5 := Int.ediv_nonneg (show 0 ≤ (p : Int) by omega) (show 0 ≤ (bs.length : Int) by omega)
  have m6 := Int.ediv_le_self (bs.length : Int) (show 0 ≤ (p : Int) by omega)
  have b1 := byt_at hB ((p : Int) % bs.length)
  have b2 := byt_at hB (((p : Int) * 7 + 3) % bs.length)
  simp [c_spec_l20Rd_pick_E, rdA, rdC, hn, hz, hl, hz2, p1]
  generalize ati bs ((p : Int) % bs.length) = A at *
  generalize ati bs (((p : Int) * 7 + 3) % bs.length) = B at *
  generalize (p : Int) / bs.length = D at *
  generalize hX : A * 131 + B * 1117 + (p : Int) * 29 + D * 53 = X at *
  (repeat' first | omega | apply And.intro)
  have hx0 : 0 ≤ ((X.toNat ^^^ (X / 64).toNat : Nat) : Int) := by omega
  exact fin (((X.toNat ^^^ (X / 64).toNat : Nat) : Int) % n) (Int.emod_nonneg _ (by omega)) (.inl (Int.emod_lt_of_pos _ (by omega))) _ (by simp) (by simp) (by simp)

/-- Whether one in n. -/
def oddSet (bs : List Int) (p : Nat) (r : AV) (ups : List AV) : Prop := ∃ (b : Bool) (q : Nat), r = .v (.bool b) ∧ q ≤ p + 1 ∧ ups = [rdA bs q, .bot]

theorem s_spec_l20Rd_odd (bs : List Int) (p : Nat) (n : Int) (hb : bs.length ≤ 2000) (hB : Byt bs) (hp : p < 2 ^ 40) (hn : n < 2 ^ 40) :
    SoundSet Tryz.prog n_spec_l20Rd_odd [rdA bs p, .v (.int .i64 n)] (oddSet bs p) := by
  refine fn_okS (md := md5) (ms := [true, false]) k_spec_l20Rd_odd (by simp) ?_
  by_cases h : 0 < n
  · simp [c_spec_l20Rd_odd, h]
    refine call_onK (s_spec_l20Rd_pick bs p n hb hB hp) [0] (by simp) (by simp) (by simp) ?_
    rintro _ _ ⟨x, h0, h1, rfl, rfl⟩
    simp
    refine ⟨by omega, ?_⟩
    refine ⟨.v (.bool (x == n - 1)), [rdA bs (p + 1), .bot], ⟨_, p + 1, rfl, Nat.le_refl _, rfl⟩, ?_⟩
    simp
  · simp [c_spec_l20Rd_odd, h]
    refine ⟨.v (.bool false), [rdA bs p, .bot], ⟨_, p, rfl, by omega, rfl⟩, ?_⟩
    simp

theorem s_spec_l20Open (bs : List Int) (hb : bs.length ≤ 2 ^ 60) :
    SoundAt Tryz.prog n_spec_l20Open [.sl 0 1 (u8s bs)] (rdA (bs.take 2000) 0) [.bot] := by
  refine fn_okPA (md := md5) (ms := [false]) k_spec_l20Open (by simp) ?_
  by_cases h : 2000 < bs.length
  · have h' : (2000 : Int) < bs.length := by omega
    have h2 : (2000 : Int) ≤ bs.length := by omega
    simp [c_spec_l20Open, h', h2, take_u8s]
    omega
  · have h' : ¬ (2000 : Int) < bs.length := by omega
    have e : bs.take 2000 = bs := List.take_of_length_le (by omega)
    simp [c_spec_l20Open, h', e]

end Go.Proofs.Dev

namespace Go.Proofs.Dev
set_option linter.unusedSimpArgs false
set_option maxRecDepth 100000

def regA (W T : Int) (cs : List Bool) : AV := .agg [.v (.int .i64 W), .v (.int .i64 T), .os 1 (bools cs)]
/-- A region of a few cells is drawn. -/
def regSet (bs : List Int) (p d : Nat) (r : AV) (ups : List AV) : Prop := ∃ (W T : Int) (cs : List Bool) (q : Nat), r = regA W T cs ∧ cs.length ≤ 37 ∧ 0 ≤ W ∧ W ≤ 6 ∧ 0 ≤ T ∧ T ≤ 24 ∧ q ≤ p + d ∧ ups = [rdA bs q, .bot]

/-- The row of a region whose list of cells grows. -/
def growR (W T : Int) (id : Nat) (cs : List Bool) : List (Option Row) := if cs = [] then [some (.box [.v (.int .i64 W), .v (.int .i64 T), .os 1 []])] else [some (.box [.v (.int .i64 W), .v (.int .i64 T), .ls 1 id 0 cs.length]), some (.arr 1 (bools cs))]

def c_spec_l20Region_T : ACode :=
  .seq (.seq (.reg [⟨(some 7), .mv, [.c (.v (.int .i64 (0)))], none⟩]) <|
  .block 0 (
    .loop [] [0, 1, 4, 5, 6, 7, 73] c_spec_l20Region_L0)) <|
  .seq (.seq (.reg [⟨(some 47), .mv, [.t 0], none⟩,
    ⟨(some 48), .mv, [.t 1], none⟩,
    ⟨(some 49), .call 56 [], [.t 47, .t 48], none⟩]) <|
  .cond (.t 49) (
    .seq (.reg [⟨(some 50), .mv, [.t 0], none⟩,
      ⟨(some 51), .call 53 [], [.t 50, .c (.v (.int .i64 (3)))], none⟩]) <|
    .block 2 (
      .seq (.reg [⟨(some 63), .bin .eql 0, [.t 51, .c (.v (.int .i64 (0)))], none⟩,
        ⟨(some 62), .mv, [.t 63], none⟩]) <|
      .cond (.t 62) (
        .reg [⟨(some 64), .fadr 2, [.t 5], none⟩,
          ⟨(some 65), .load false 1, [.t 64], none⟩,
          ⟨(some 66), .bsl 1, [.c (.v (.bool true))], none⟩,
          ⟨(some 67), .app 1 1 true, [.t 65, .t 66], none⟩,
          ⟨(some 68), .fadr 2, [.t 5], none⟩,
          ⟨none, .store 1, [.t 68, .t 67], none⟩]) (
        .seq (.reg [⟨(some 70), .bin .eql 0, [.t 51, .c (.v (.int .i64 (1)))], none⟩,
          ⟨(some 69), .mv, [.t 70], none⟩]) <|
        .cond (.t 69) (
          .seq (.reg [⟨(some 71), .build [.v (.int .i64 (0)), .v (.int .i64 (0)), .os 1 []] [], [], none⟩,
            ⟨none, .store 3, [.t 4, .t 71], none⟩]) <|
          .ret) (
          .seq (.reg [⟨(some 52), .build [.v (.int .i64 (0)), .v (.int .i64 (0)), .os 1 []] [(0, 1), (1, 1)], [.c (.v (.int .i64 (6))), .c (.v (.int .i64 (6)))], none⟩,
            ⟨none, .store 3, [.t 5, .t 52], none⟩]) <|
          .seq (.reg [⟨(some 8), .mv, [.c (.v (.int .i64 (0)))], none⟩]) <|
          .block 3 (
            .loop [] [4, 5, 8, 73] c_spec_l20Region_L1))))) (
    .skip)) <|
  .seq (.reg [⟨(some 72), .load true 3, [.t 5], none⟩,
    ⟨none, .store 3, [.t 4, .t 72], none⟩]) <|
  .ret

theorem reg_full (bs : List Int) (p q : Nat) (hq : q ≤ p + 100) : loopNode [] [4, 5, 8, 73] (awp Tryz.prog md5 c_spec_l20Region_L1)
    (ablock 3 (ablock 2 (athen (awp Tryz.prog md5 (.seq (.reg [⟨(some 72), .load true 3, [.t 5], none⟩, ⟨none, .store 3, [.t 4, .t 72], none⟩]) .ret) (FinS [RV.c 4 true 3] 73 2 [true, false] (regSet bs p 100))) (FinS [RV.c 4 true 3] 73 2 [true, false] (regSet bs p 100)))))
    [(4, .lp 0 0 0 0), (5, .lp 0 1 0 0), (8, .v (.int .i64 0)), (73, .lp 0 2 0 0)]
    [some (.box [.v (.int .i64 0), .v (.int .i64 0), .os 1 []]), some (.box [.v (.int .i64 6), .v (.int .i64 6), .os 1 []]), some (.box [.sl 0 1 (u8s bs), .v (.int .i64 (q : Int))])] := by
  refine loop_by (fun m E H => ∃ i : Nat, m = 36 - i ∧ i ≤ 36 ∧ E = [(4, .lp 0 0 0 0), (5, .lp 0 1 0 0), (8, .v (.int .i64 i)), (73, .lp 0 2 0 0)] ∧
    H = if i = 0 then [some (.box [.v (.int .i64 0), .v (.int .i64 0), .os 1 []]), some (.box [.v (.int .i64 6), .v (.int .i64 6), .os 1 []]), some (.box [.sl 0 1 (u8s bs), .v (.int .i64 (q : Int))])]
      else [some (.box [.v (.int .i64 0), .v (.int .i64 0), .os 1 []]), some (.box [.v (.int .i64 6), .v (.int .i64 6), .ls 1 3 0 i]), some (.box [.sl 0 1 (u8s bs), .v (.int .i64 (q : Int))]), some (.arr 1 (bools (List.replicate i true)))]) 36 ⟨0, rfl, by omega, by simp, by simp⟩ ?_
  rintro J hJ m E H ⟨i, rfl, hi, rfl, rfl⟩
  by_cases h : i < 36
  · have h' : (i : Int) < 36 := by omega
    by_cases h0 : i = 0
    · subst h0
      simp [c_spec_l20Region_L1]
      exact ⟨_, by omega, hJ _ _ _ ⟨1, rfl, by omega, by simp, by simp [bools]⟩⟩
    · have e : bools (List.replicate i true) ++ [.v (.bool true)] = bools (List.replicate (i + 1) true) := by rw [List.replicate_succ', bools_append]; rfl
      simp [c_spec_l20Region_L1, h', h0, e]
      exact ⟨by omega, by omega, _, by omega, hJ _ _ _ ⟨i + 1, rfl, h, by simp, by simp⟩⟩
  · have : i = 36 := by omega
    subst this
    simp [c_spec_l20Region_L1]
    refine ⟨_, _, ⟨6, 6, List.replicate 36 true, q, rfl, by simp, by omega, by omega, by omega, by omega, hq, rfl⟩, ?_⟩
    simp [regA]
    rfl

/-- A region whose sides are drawn: the rest. -/
theorem reg_tail (bs : List Int) (p : Nat) (n W T : Int) (hb : bs.length ≤ 2000) (hB : Byt bs) (hp : p < 2 ^ 39) (hn : n < 2 ^ 39) (hW : 1 ≤ W ∧ W ≤ 6) (hT : 0 ≤ T ∧ T ≤ 24) (hm : 0 ≤ W * T ∧ W * T ≤ 36) (E : ES) (P2 : Int) (hP2 : P2 = ((p + 1 + 1 : Nat) : Int))
    (e0 : get E 0 = .lp 0 0 0 0) (e1 : get E 1 = .v (.int .i64 n)) (e4 : get E 4 = .lp 0 1 0 0) (e5 : get E 5 = .lp 0 2 0 0) (e73 : get E 73 = .lp 0 0 0 0) :
    callNode Tryz.prog 53 [true, false] [AV.lp 0 0 0 0, AV.v (Value.int IntKind.i64 8)] E
      [some (Row.box [AV.sl 0 1 (u8s bs), AV.v (Value.int IntKind.i64 P2)]), some (Row.box [AV.v (Value.int IntKind.i64 0), AV.v (Value.int IntKind.i64 0), AV.os 1 []]), some (Row.box [AV.v (Value.int IntKind.i64 W), AV.v (Value.int IntKind.i64 T), AV.os 1 []])]
      (some 27)
      (awpOps Tryz.prog md5
        [{ dst := some 28, k := AK.bin BinOp.add 0, xs := [Opd.c (AV.v (Value.int IntKind.i64 2)), Opd.t 27], guard := none }, { dst := some 6, k := AK.mv, xs := [Opd.t 28], guard := none }]
        (awp Tryz.prog md5 c_spec_l20Region_T (FinS [RV.c 4 true 3] 73 2 [true, false] (regSet bs p 100)))) := by
  subst hP2
  refine call_onK (s_spec_l20Rd_pick bs (p + 1 + 1) 8 hb hB (by omega)) [0] (by simp) (by simp) (by simp) ?_
  rintro _ _ ⟨z, z0, z1, rfl, rfl⟩
  simp [c_spec_l20Region_T, get_purgeE, e0, e1, e4, e5, e73]
  refine ⟨by omega, ?_⟩
  obtain ⟨N, hN⟩ : ∃ N : Nat, W * T = N := ⟨(W * T).toNat, by omega⟩
  refine loop_by (fun m E H => ∃ (i q : Nat) (cs : List Bool), m = N - i ∧ i ≤ N ∧ cs.length = i ∧ q ≤ p + 3 + i ∧
    H = some (.box [.sl 0 1 (u8s bs), .v (.int .i64 q)]) :: some (.box [.v (.int .i64 0), .v (.int .i64 0), .os 1 []]) :: growR W T 3 cs ∧
    E = [(0, .lp 0 0 0 0), (1, .v (.int .i64 n)), (4, .lp 0 1 0 0), (5, .lp 0 2 0 0), (6, .v (.int .i64 (2 + z))), (7, .v (.int .i64 i)), (73, .lp 0 0 0 0)]) N ⟨0, p + 1 + 1 + 1, [], rfl, by omega, rfl, by omega, by simp [growR], by simp⟩ ?_
  rintro J hJ m E H ⟨i, q, cs, rfl, hi, hlen, hq, rfl, rfl⟩
  by_cases h : i < N
  · have h' : (i : Int) < W * T := by omega
    have next : ∀ c : Bool, again J (N - i) [(0, .lp 0 0 0 0), (1, .v (.int .i64 n)), (4, .lp 0 1 0 0), (5, .lp 0 2 0 0), (6, .v (.int .i64 (2 + z))), (7, .v (.int .i64 (i + 1))), (73, .lp 0 0 0 0)]
        (some (.box [.sl 0 1 (u8s bs), .v (.int .i64 (q + 1))]) :: some (.box [.v (.int .i64 0), .v (.int .i64 0), .os 1 []]) :: growR W T 3 (cs ++ [c])) := by
      intro c
      exact ⟨_, by omega, hJ _ _ _ ⟨i + 1, q + 1, cs ++ [c], rfl, h, by simp [hlen], by omega, by simp, by simp⟩⟩
    by_cases hc : cs = []
    · subst hc
      simp [c_spec_l20Region_L0, growR, h']
      (repeat' first | omega | apply And.intro) <;>
      · refine call_onK (s_spec_l20Rd_pick bs q 10 hb hB (by omega)) [0] (by simp) (by simp) (by simp) ?_
        rintro _ _ ⟨x, x0, x1, rfl, rfl⟩
        simp
        have n2 := next (decide (x ≤ 2 + z))
        simp [growR, bools] at n2
        exact ⟨by omega, n2⟩
    · have hcl : ¬ cs.length = 0 := fun h => hc (List.eq_nil_of_length_eq_zero h)
      simp [c_spec_l20Region_L0, growR, h', hc]
      (repeat' first | omega | apply And.intro) <;>
      · refine call_onK (s_spec_l20Rd_pick bs q 10 hb hB (by omega)) [0] (by simp) (by simp) (by simp) ?_
        rintro _ _ ⟨x, x0, x1, rfl, rfl⟩
        simp
        have n2 := next (decide (x ≤ 2 + z))
        simp [growR, bools_append, bools_one] at n2
        (repeat' first | omega | assumption | apply And.intro)
  have : i = N := by omega
  subst this
  have h' : ¬ (i : Int) < W * T := by omega
  have fin : ∀ (W2 T2 : Int) (cs2 : List Bool) (q2 : Nat), cs2.length ≤ 37 → 0 ≤ W2 → W2 ≤ 6 → 0 ≤ T2 → T2 ≤ 24 → q2 ≤ p + 100 → regSet bs p 100 (regA W2 T2 cs2) [rdA bs q2, .bot] :=
    fun W2 T2 cs2 q2 a1 a2 a3 a4 a5 a6 => ⟨W2, T2, cs2, q2, rfl, a1, a2, a3, a4, a5, a6, rfl⟩
  by_cases hc : cs = []
  · subst hc
    simp [c_spec_l20Region_L0, growR, h']
    refine ⟨by omega, ?_⟩
    refine call_onK (s_spec_l20Rd_odd bs q n hb hB (by omega) (by omega)) [0] (by simp) (by simp) (by simp) ?_
    rintro _ _ ⟨b, q2, rfl, hq2, rfl⟩
    cases b with
    | false =>
      simp
      refine ⟨_, _, fin W T [] q2 (by simp) (by omega) (by omega) (by omega) (by omega) (by omega), ?_⟩
      simp [regA]
    | true =>
    simp
    refine call_onK (s_spec_l20Rd_pick bs q2 3 hb hB (by omega)) [0] (by simp) (by simp) (by simp) ?_
    rintro _ _ ⟨x, x0, x1, rfl, rfl⟩
    by_cases c0 : x = 0
    · simp [c0]
      refine ⟨_, _, fin W T [true] (q2 + 1) (by simp) (by omega) (by omega) (by omega) (by omega) (by omega), ?_⟩
      simp [regA, bools]
    by_cases c1 : x = 1
    · simp [c1]
      refine ⟨_, _, fin 0 0 [] (q2 + 1) (by simp) (by omega) (by omega) (by omega) (by omega) (by omega), ?_⟩
      simp [regA, bools]
    simp [c0, c1]
    exact reg_full bs p (q2 + 1) (by omega)
  · have hcl : ¬ cs.length = 0 := fun h => hc (List.eq_nil_of_length_eq_zero h)
    simp [c_spec_l20Region_L0, growR, h', hc]
    refine ⟨by omega, ?_⟩
    refine call_onK (s_spec_l20Rd_odd bs q n hb hB (by omega) (by omega)) [0] (by simp) (by simp) (by simp) ?_
    rintro _ _ ⟨b, q2, rfl, hq2, rfl⟩
    cases b with
    | false =>
      simp
      refine ⟨_, _, fin W T cs q2 (by omega) (by omega) (by omega) (by omega) (by omega) (by omega), ?_⟩
      simp [regA]
    | true =>
    simp
    refine call_onK (s_spec_l20Rd_pick bs q2 3 hb hB (by omega)) [0] (by simp) (by simp) (by simp) ?_
    rintro _ _ ⟨x, x0, x1, rfl, rfl⟩
    by_cases c0 : x = 0
    · simp [c0]
      refine ⟨by omega, ?_⟩
      refine ⟨_, _, fin W T (cs ++ [true]) (q2 + 1) (by simp; omega) (by omega) (by omega) (by omega) (by omega) (by omega), ?_⟩
      simp [regA, bools_append, bools_one]
      exact List.take_of_length_le (by simp)
    by_cases c1 : x = 1
    · simp [c1]
      refine ⟨_, _, fin 0 0 [] (q2 + 1) (by simp) (by omega) (by omega) (by omega) (by omega) (by omega), ?_⟩
      simp [regA, bools]
    simp [c0, c1]
    exact reg_full bs p (q2 + 1) (by omega)

theorem s_spec_l20Region (bs : List Int) (p : Nat) (n : Int) (hb : bs.length ≤ 2000) (hB : Byt bs) (hp : p < 2 ^ 39) (hn : n < 2 ^ 39) :
    SoundSet Tryz.prog n_spec_l20Region [rdA bs p, .v (.int .i64 n)] (regSet bs p 100) := by
  refine fn_okS (md := md5) (ms := [true, false]) k_spec_l20Region (by simp) ?_
  simp [c_spec_l20Region]
  refine call_onK (s_spec_l20Rd_pick bs p 6 hb hB (by omega)) [0] (by simp) (by simp) (by simp) ?_
  rintro _ _ ⟨x, x0, x1, rfl, rfl⟩
  simp
  refine ⟨by omega, ?_⟩
  refine call_onK (s_spec_l20Rd_pick bs (p + 1) 6 hb hB (by omega)) [0] (by simp) (by simp) (by simp) ?_
  rintro _ _ ⟨y, y0, y1, rfl, rfl⟩
  simp
  have hW : 1 ≤ 1 + x ∧ 1 + x ≤ 6 := by omega
  have hY : 1 ≤ 1 + y ∧ 1 + y ≤ 6 := by omega
  have hm0 : 0 ≤ (1 + x) * (1 + y) := Int.mul_nonneg (by omega) (by omega)
  have hm1 : (1 + x) * (1 + y) ≤ 6 * 6 := Int.mul_le_mul hW.2 hY.2 (by omega) (by omega)
  refine ⟨by omega, by omega, ?_⟩
  have hT1 : 0 ≤ 24 / (1 + x) ∧ 24 / (1 + x) ≤ 24 := ⟨Int.ediv_nonneg (by omega) (by omega), Int.ediv_le_self _ (by omega)⟩
  have hT2 : (1 + x) * (24 / (1 + x)) ≤ 24 := Int.mul_ediv_self_le (by omega)
  have hT3 : 0 ≤ (1 + x) * (24 / (1 + x)) := Int.mul_nonneg (by omega) hT1.1
  obtain ⟨T1, hTe1⟩ : ∃ T, 24 / (1 + x) = T := ⟨_, rfl⟩
  obtain ⟨T2, hTe2⟩ : ∃ T, 1 + y = T := ⟨_, rfl⟩
  obtain ⟨W, hWe⟩ : ∃ W, 1 + x = W := ⟨_, rfl⟩
  rw [hTe1, hWe] at hT2 hT3
  rw [hTe1] at hT1
  rw [hWe] at hTe1
  rw [hTe2, hWe] at hm0 hm1
  rw [hTe2] at hY
  rw [hWe] at hW
  simp only [hWe, hTe1, hTe2]
  clear hTe1 hTe2 hWe
  have e2 : (p : Int) + 1 + 1 = ((p + 1 + 1 : Nat) : Int) := by simp
  refine ⟨fun hgt => ⟨by omega, ?_⟩, fun hgt => ?_⟩
  · refine reg_tail bs p n W T1 hb hB hp hn hW hT1 ⟨hT3, by omega⟩ _ _ e2 ?_ ?_ ?_ ?_ ?_ <;> rfl
  · refine reg_tail bs p n W T2 hb hB hp hn hW ⟨by omega, by omega⟩ ⟨hm0, hm1⟩ _ _ e2 ?_ ?_ ?_ ?_ ?_ <;> rfl

end Go.Proofs.Dev
