/- Contracts of the functions of the program over slots and rows, each proved against the program itself; no condition beyond those that each theorem names. -/
import Derived.Test.YtfkmfobbgoflgaaGreatDoorAV
import Derived.Test.YtfkmfobbgoflgaaGreatDoorAR
import Derived.Test.YtfkmfobbgoflgaaGreatDoorAN
import Derived.Test.YtfkmfobbgoflgaaGreatDoorAI
import Derived.Test.YtfkmfobbgoflgaaGreatDoorProg
import Derived.Test.YtfkmfobbgoflgaaGreatDoorAO
import Derived.Test.YtfkmfobbgoflgaaGreatDoorAQ
import Derived.Test.YtfkmfobbgoflgaaGreatDoorAH
set_option linter.unusedSimpArgs false
set_option linter.unusedVariables false
set_option maxRecDepth 100000
namespace Go.Proofs.Dev
theorem Sh (xs ys : List Bool) (ha : xs.length < 2 ^ 40) :
  SoundAt Tryz.prog ME [.sl 1 1 (AD xs), .sl 1 1 (AD ys)] (.v (.bool (decide (xs = ys)))) [.bot, .bot] := by
 refine AJ (md := md0) (ms := [false, false]) Sg (by simp) ?_
 simp [MF]
 refine ⟨fun h => ?_, fun hl => ?_⟩
 ·intro e; subst e; exact h rfl
 refine AH (fun m E H => ∃ i : Nat, m = xs.length - i ∧ i ≤ xs.length ∧ xs.take i = ys.take i ∧ H = [] ∧ E = [(0, .sl 1 1 (AD xs)), (1, .sl 1 1 (AD ys)), (5, .v (.int .i64 i))]) xs.length ⟨0, by simp⟩ ?_
 rintro J hJ m E H ⟨i, rfl, hi, he, rfl, rfl⟩
 by_cases h : i < xs.length
 case neg =>
  have h1 : i = xs.length := by omega
  subst h1
  have e : xs = ys := by
   rw [List.take_length] at he
   rw [he]; exact List.take_of_length_le (by omega)
  simp [DK, e]
 have h2 : i < ys.length := by omega
 have key : (atb xs i = atb ys i) → xs.take (i + 1) = ys.take (i + 1) := by
  intro e
  rw [List.take_succ_eq_append_getElem h, List.take_succ_eq_append_getElem (by omega), he]
  simp [atb, h, h2] at e
  rw [e]
 have key2 : ¬ (atb xs i = atb ys i) → ¬ xs = ys := fun e e2 => e (by rw [e2])
 by_cases e : atb xs i = atb ys i
 ·simp [DK, h, h2, e]
  exact ⟨by omega, _, by omega, hJ _ _ _ ⟨i + 1, rfl, h, key e, rfl, rfl⟩⟩
 ·have e2 : (atb xs i == atb ys i) = false := by simpa using e
  simp [DK, h, h2, e, e2, key2 e]
def eR (W T : Int) (cs : List Bool) (W2 T2 : Int) (cs2 : List Bool) : Bool := (decide (W = W2) && decide (T = T2)) && decide (cs = cs2)
def gr (W T : Int) (cs : List Bool) (ds ls : List Int) (ps : List (List Int)) (W2 T2 : Int) (cs2 : List Bool) (ds2 ls2 : List Int) (ps2 : List (List Int)) : Bool :=
 ((eR W T cs W2 T2 cs2 && decide (ds = ds2)) && decide (ls = ls2)) && decide (ps = ps2)
theorem bb (W T : Int) (cs : List Bool) (ds ls : List Int) (ps : List (List Int)) : gr W T cs ds ls ps W T cs ds ls ps = true := by simp [gr, eR]
theorem Rd (W T : Int) (cs : List Bool) (W2 T2 : Int) (cs2 : List Bool) (ha : cs.length < 2 ^ 40) :
  SoundAt Tryz.prog K6 [.agg [.v (.int .i64 W), .v (.int .i64 T), .sl 1 1 (AD cs)], .agg [.v (.int .i64 W2), .v (.int .i64 T2), .sl 1 1 (AD cs2)]] (.v (.bool (eR W T cs W2 T2 cs2))) [.bot, .bot] := by
 refine AJ (md := md0) (ms := [false, false]) Rc (by simp) ?_
 unfold eR
 by_cases h1 : W = W2
 ·by_cases h2 : T = T2
  ·simp [ET, h1, h2]
   refine AA (Sh cs cs2 ha) ?_
   simp
  ·simp [ET, h1, h2]
 ·simp [ET, h1]
theorem UR (W T : Int) (cs : List Bool) (ds ls : List Int) (ps : List (List Int)) (W2 T2 : Int) (cs2 : List Bool) (ds2 ls2 : List Int) (ps2 : List (List Int))
  (hc : cs.length < 2 ^ 40) (hd : ds.length < 2 ^ 40) (hl : ls.length < 2 ^ 40) (hb : ps.length < 2 ^ 40) (hp : ∀ p ∈ ps, p.length < 2 ^ 40) :
  SoundAt Tryz.prog NR [bkA W T cs ds ls ps, bkA W2 T2 cs2 ds2 ls2 ps2] (.v (.bool (gr W T cs ds ls ps W2 T2 cs2 ds2 ls2 ps2))) [.bot, .bot] := by
 refine AJ (md := md0) (ms := [false, false]) UQ (by simp) ?_
 have one := Rd W T cs W2 T2 cs2 hc
 have two := Ij ds ds2 hd
 have three := Ij ls ls2 hl
 have four := SV ps ps2 hb hp
 unfold gr
 simp [NS]
 refine AA one ?_
 cases eR W T cs W2 T2 cs2 with
 | false => simp
 | true =>
 simp
 refine AA two ?_
 by_cases h2 : ds = ds2
 case neg => simp [h2]
 simp [h2]
 refine AA three ?_
 by_cases h3 : ls = ls2
 case neg => simp [h3]
 simp [h3]
 refine AA four ?_
 simp
abbrev l8 (W T : Int) (cs : List Bool) (ds : List Int) : List Int → List (List Int) → Tu → Bool × List Int × List (List Int) := fun l p d => doI W T cs ds l p d.1 d.2.1 d.2.2
def km (W T : Int) (cs : List Bool) (ds ls : List Int) (ps : List (List Int)) (xs : List Tu) : List Int × List (List Int) × Nat := Fi (l8 W T cs ds) ls ps xs
def YQ (W T : Int) (cs : List Bool) (ds ls : List Int) (ps : List (List Int)) (xs : List Tu) : Bool := Bw W T cs ds ls ps && decide (xs.length ≤ 40)
theorem US (W T : Int) (cs : List Bool) (ds ls : List Int) (ps : List (List Int)) (xs : List Tu) (hc : cs.length ≤ 2 ^ 30) (hd : ds.length ≤ 2 ^ 30) (hl : ls.length ≤ 2 ^ 30) (hb : ps.length ≤ 2 ^ 30) (hp : ∀ p ∈ ps, p.length ≤ 2 ^ 30)
  (hx : xs.length < 2 ^ 40) (hs : ∀ d ∈ xs, d.2.1 ≤ 9223372036854775807) :
  SoundAt Tryz.prog Gu [bkA W T cs ds ls ps, .sl 1 3 (dsA xs)]
   (.tup [if YQ W T cs ds ls ps xs = true then bkO W T cs ds (km W T cs ds ls ps xs).1 (km W T cs ds ls ps xs).2.1 else bkO 0 0 [] [] [] [], .v (.int .i64 (if YQ W T cs ds ls ps xs = true then ((km W T cs ds ls ps xs).2.2 : Int) else 0))]) [.bot, .bot] := by
 refine U5 VN W T cs ds ls ps xs (Bw W T cs ds ls ps) hx (l8 W T cs ds) (fun l p => Bw W T cs ds l p = true) (fun d => d.2.1 ≤ 9223372036854775807) hs
  (Lp W T cs ds ls ps (by omega) (by omega) (by omega) (by omega) (fun p h => by have := hp p h; omega)) ?_ (fun h => h) ?_ ?_
 ·intro h
  obtain ⟨hf, h20, hpf⟩ := A6 h
  obtain ⟨l36, ld, ll⟩ := CD hf
  exact Jv W T cs ds ls ps (by omega) (by omega) (by omega) (by omega) (fun p hp => by have := CD (hpf p hp); omega)
 ·intro l p d h
  exact eP _ _ _ h
 ·intro l p d h hD
  exact KP W T cs ds l p d.1 d.2.1 d.2.2 h hD
@[simp] abbrev MG : Nat := 14
def Iv : ACode := .seq (.seq (.reg [.m 11 5, .m 12 0, .n 13 12, .o 14 (.bin .lss 0) [.t 11, .t 13]]) <| .cond (.t 14) ( .skip) ( .exit 0)) <| .seq (.block 1 ( .seq (.draw ( .take (.m 17 0) <| .take (.m 18 5) <| .take (.o 19 (.iadr 3) [.t 17, .t 18]) <| .take (.m 21 1) <| .take (.m 22 5) <| .take (.o 23 (.iadr 3) [.t 21, .t 22]) <| .alt (.la 20 3 19) ( .al (.la 24 3 23) ( .take (.o 25 (.bin .neq 6) [.t 20, .t 24]) <| .done)) <| .al (.la 24 3 23) ( .al (.la 20 3 19) ( .take (.o 25 (.bin .neq 6) [.t 20, .t 24]) <| .done)))) <| .cond (.t 25) ( .seq (.reg [.o 4 .mv [.kb false]]) <| .ret) ( .skip))) <| .reg [.m 15 5, .o 16 (.bin .add 0) [.t 15, .k 1], .m 5 16]
def MH : ACode := .seq (.reg [.o 4 .mv [.kb false]]) <| .seq (.seq (.reg [.m 6 0, .n 7 6, .m 8 1, .n 9 8, .o 10 (.bin .neq 0) [.t 7, .t 9]]) <| .cond (.t 10) ( .seq (.reg [.o 4 .mv [.kb false]]) <| .ret) ( .skip)) <| .seq (.seq (.reg [.o 5 .mv [.k 0]]) <| .block 0 ( .loop [(0, 3), (1, 3)] [0, 1, 5] Iv)) <| .seq (.reg [.o 4 .mv [.kb true]]) <| .ret
theorem Si : cFn Tryz.prog MG 26 [.t 4] MH := ⟨Tryz.f14, _, Tryz.func14, rfl, by kernel_rfl, by kernel_rfl, by kernel_rfl, by kernel_rfl⟩
theorem MI (xs ys : List (Int × Int × Int)) (ha : xs.length < 2 ^ 40) :
  SoundAt Tryz.prog MG [.sl 1 3 (dsA xs), .sl 1 3 (dsA ys)] (.v (.bool (decide (xs = ys)))) [.bot, .bot] := by
 refine AJ (md := md3) (ms := [false, false]) Si (by simp) ?_
 simp [MH]
 refine ⟨fun h => ?_, fun hl => ?_⟩
 ·intro e; subst e; exact h rfl
 refine AH (fun m E H => ∃ i : Nat, m = xs.length - i ∧ i ≤ xs.length ∧ xs.take i = ys.take i ∧ H = [] ∧ E = [(0, .sl 1 3 (dsA xs)), (1, .sl 1 3 (dsA ys)), (5, .v (.int .i64 i))]) xs.length ⟨0, by simp⟩ ?_
 rintro J hJ m E H ⟨i, rfl, hi, he, rfl, rfl⟩
 simp [Iv]
 refine ⟨fun h => ?_, fun h => ?_⟩
 ·have h2 : i < ys.length := by omega
  have key : xs[i] = ys[i] → xs.take (i + 1) = ys.take (i + 1) := by
   intro e
   rw [List.take_succ_eq_append_getElem h, List.take_succ_eq_append_getElem h2, he, e]
  have key2 : ¬ (xs[i] = ys[i]) → xs ≠ ys := fun e e2 => e (by subst e2; rfl)
  simp [h, h2, QI, bO]
  refine ⟨fun hn e => ?_, fun a b c => ⟨by omega, _, by omega, hJ _ _ _ ⟨i + 1, rfl, h, key (Prod.ext a (Prod.ext b c)), rfl, rfl⟩⟩⟩
  subst e
  simp at hn
 ·have h1 : i = xs.length := by omega
  subst h1
  rw [List.take_length] at he
  rw [he]
  exact List.take_of_length_le (by omega)
def VX (ls ws : List Int) (k : Nat) : List (Int × Int × Int) := if (ati ls k = 1 ∨ ati ls k = 2) ∧ ati ws k ≠ ati ls k then [(1, (k : Int), 0)] else []
def eS (ls ws : List Int) (k : Nat) : List (Int × Int × Int) := if (ati ws k = 1 ∨ ati ws k = 2) ∧ ati ws k ≠ ati ls k then [(0, (k : Int), ati ws k)] else []
def EB (ls ws : List Int) (n : Nat) : List (Int × Int × Int) := (List.range n).flatMap (VX ls ws)
def Ht (ls ws : List Int) (n : Nat) : List (Int × Int × Int) := (List.range n).flatMap (eS ls ws)
theorem R3 (ls ws : List Int) (n : Nat) : EB ls ws (n + 1) = EB ls ws n ++ VX ls ws n := by simp [EB, List.range_succ]
theorem UT (ls ws : List Int) (n : Nat) : Ht ls ws (n + 1) = Ht ls ws n ++ eS ls ws n := by simp [Ht, List.range_succ]
theorem KQ (ls ws : List Int) : ∀ n, (EB ls ws n).length ≤ n
 | 0 => by simp [EB]
 | n + 1 => by
   have := KQ ls ws n
   rw [R3, List.length_append]
   have : (VX ls ws n).length ≤ 1 := by unfold VX; split <;> simp
   omega
theorem LY (ls ws : List Int) : ∀ n, (Ht ls ws n).length ≤ n
 | 0 => by simp [Ht]
 | n + 1 => by
   have := LY ls ws n
   rw [UT, List.length_append]
   have : (eS ls ws n).length ≤ 1 := by unfold eS; split <;> simp
   omega
def gt (ls ws : List Int) : List (Int × Int × Int) := EB ls ws ws.length ++ Ht ls ws ws.length
def YR (W T : Int) (cs : List Bool) : List Int := if A3 W T cs then A5 cs else []
def oa (W T : Int) (cs : List Bool) (ds ls : List Int) (ps : List (List Int)) : List (Int × Int × Int) :=
 if (Bw W T cs ds ls ps && gn W T cs ds (YR W T cs)) = true then gt ls (aQ W T cs ds (YR W T cs)) else []
theorem XP {W T : Int} {cs : List Bool} {ds ls : List Int} {ps : List (List Int)} {b : List Int} (h1 : Bw W T cs ds ls ps = true) (h2 : gn W T cs ds b = true) :
  ls.length = (aQ W T cs ds b).length ∧ (aQ W T cs ds b).length ≤ 36 ∧ ds.length = cs.length := by
 have hok := Q9 (Fb (V1 h1))
 unfold gn at h2
 unfold aQ
 cases hf : Dj W T cs ds b with
 | none => rw [hf] at h2; cases h2
 | some x =>
   have e := (QQ hf).2
   have := AZ hok.1
   simp only [Option.getD_some]
   exact ⟨by omega, by omega, hok.2.1⟩
theorem WA {α β : Type} (c : α → Bool) (g : α → β) : ∀ l : List α, (l.flatMap fun k => if c k = true then [g k] else []) = (l.filter c).map g
 | [] => rfl
 | a :: l => by
   rw [List.flatMap_cons, WA c g l, List.filter_cons]
   cases c a <;> simp
def eU (ls : List Int) : List Nat := (List.range ls.length).filter fun k => decide (ati ls k = 1 ∨ ati ls k = 2)
theorem domK_mem {ls : List Int} {k : Nat} : k ∈ eU ls ↔ k < ls.length ∧ (ati ls k = 1 ∨ ati ls k = 2) := by simp [eU]
theorem eW (W T : Int) (ds ls : List Int) : BZ W T ds ls = (eU ls).map fun k : Nat => Xx (ati ds k) (ati ds (AF W T k (ati ls k))) := by
 have := WA (fun k : Nat => decide (ati ls k = 1 ∨ ati ls k = 2)) (fun k : Nat => Xx (ati ds k) (ati ds (AF W T k (ati ls k)))) (List.range ls.length)
 simp only [decide_eq_true_eq] at this
 exact this
theorem Qm {W T : Int} {cs : List Bool} {ls : List Int} {k : Nat} (hr : A3 W T cs = true) (hy : AU W T cs ls = true) (hk : k ∈ eU ls) :
  ∃ t : Nat, AF W T k (ati ls k) = t ∧ t < cs.length ∧ k < cs.length ∧ k < t ∧ atb cs k = true ∧ atb cs t = true ∧ ati ls t = Ca (ati ls k) ∧ AF W T t (ati ls t) = k := by
 obtain ⟨w1, w2, t1, t2, l1, _⟩ := BI hr
 obtain ⟨hk1, hw⟩ := domK_mem.1 hk
 have hl := Aj hy
 obtain ⟨v1, v4, g3, g4, g5, g6⟩ := Ib hy hk1 (by omega)
 have sb := Co (W := W) (T := T) (k := k) (way := ati ls k) w1 (by omega) (by omega) g4
 obtain ⟨t, ht⟩ : ∃ t : Nat, AF W T k (ati ls k) = t := ⟨(AF W T k (ati ls k)).toNat, by omega⟩
 have hlt : (k : Int) < AF W T k (ati ls k) := by
  unfold AF at g4 ⊢
  rcases hw with h | h <;> rw [h] at g4 ⊢ <;> simp at g4 ⊢ <;> split at g4 <;> first | omega | (rename_i hc; rw [if_pos hc]; omega)
 rw [ht] at g5 g6 sb hlt
 exact ⟨t, ht, by omega, by omega, by omega, g3, g5, g6, by rw [g6]; exact sb.1⟩
theorem bd {W T : Int} {cs : List Bool} {ls : List Int} {j : Nat} (hr : A3 W T cs = true) (hy : AU W T cs ls = true) (hj : j < ls.length) (hw : 3 ≤ ati ls j) :
  ∃ k : Nat, AF W T j (ati ls j) = k ∧ k ∈ eU ls ∧ AF W T k (ati ls k) = j := by
 obtain ⟨w1, w2, t1, t2, l1, _⟩ := BI hr
 have hl := Aj hy
 obtain ⟨v1, v4, g3, g4, g5, g6⟩ := Ib hy hj (by omega)
 have sb := Co (W := W) (T := T) (k := j) (way := ati ls j) w1 (by omega) (by omega) g4
 obtain ⟨k, hk⟩ : ∃ k : Nat, AF W T j (ati ls j) = k := ⟨(AF W T j (ati ls j)).toNat, by omega⟩
 rw [hk] at g6 sb
 have hb : Ca (ati ls j) = 1 ∨ Ca (ati ls j) = 2 := by unfold Ca; omega
 refine ⟨k, hk, domK_mem.2 ⟨by omega, by omega⟩, by rw [g6]; exact sb.1⟩
def eX (cs : List Bool) : List Nat := (List.range cs.length).filter fun k : Nat => atb cs k
def eY (cs : List Bool) (ls : List Int) : List Nat := (List.range cs.length).filter fun k : Nat => atb cs k && decide (ati ls k = 0)
def toK (W T : Int) (ls : List Int) : List Nat := (eU ls).map fun k : Nat => (AF W T k (ati ls k)).toNat
theorem Qo (cs : List Bool) : ∀ n, n ≤ cs.length → BH (cs.take n) = ((List.range n).filter fun k : Nat => atb cs k).length
 | 0, _ => by simp [BH]
 | n + 1, h => by
   rw [Ou cs n (by omega), Qo cs n (by omega), List.range_succ, List.filter_append, List.length_append]
   congr 1
   by_cases hc : atb cs n = true <;> simp [hc]
theorem YS (cs : List Bool) : (eX cs).length = BH cs := by
 have := Qo cs cs.length (Nat.le_refl _)
 rw [List.take_length] at this
 exact this.symm
theorem O9 (n : Nat) : (List.range n).Nodup := List.nodup_range
theorem WB (ls : List Int) : (eU ls).Nodup := (O9 _).filter _
theorem NT {α β : Type} {f : α → β} : ∀ {l : List α}, l.Nodup → (∀ x ∈ l, ∀ y ∈ l, f x = f y → x = y) → (l.map f).Nodup
 | [], _, _ => by simp
 | a :: l, hn, h => by
   rw [List.nodup_cons] at hn
   rw [List.map_cons, List.nodup_cons]
   refine ⟨?_, NT hn.2 fun x hx y hy => h x (by simp [hx]) y (by simp [hy])⟩
   intro hm
   obtain ⟨y, hy, e⟩ := List.mem_map.1 hm
   have := h y (by simp [hy]) a (by simp) e
   subst this
   exact hn.1 hy
theorem Iw {α : Type} : ∀ {l m : List α}, l.Nodup → m.Nodup → (∀ x ∈ l, x ∉ m) → (l ++ m).Nodup
 | [], m, _, hm, _ => hm
 | a :: l, m, hl, hm, h => by
   rw [List.nodup_cons] at hl
   rw [List.cons_append, List.nodup_cons]
   refine ⟨?_, Iw hl.2 hm fun x hx => h x (by simp [hx])⟩
   intro hx
   rcases List.mem_append.1 hx with h1 | h1
   ·exact hl.1 h1
   ·exact h a (by simp) h1
theorem YT {l m : List Nat} (hn : l.Nodup) (h : ∀ x ∈ l, x ∈ m) : l.length ≤ m.length := by
 have h1 : (l.map Int.ofNat).Nodup := NT hn fun x _ y _ e => by simp at e; omega
 have := aE (m := m.map Int.ofNat) h1 (by
  intro x hx
  obtain ⟨y, hy, rfl⟩ := List.mem_map.1 hx
  exact List.mem_map.2 ⟨y, h y hy, rfl⟩)
 simpa using this
theorem ZU (ls : List Int) : (eU ls).length = Kl ls := by
 have h1 := bP 1 1 [] ls
 rw [eW, List.length_map] at h1
 exact h1
theorem ZV {W T : Int} {cs : List Bool} {ls : List Int} (hr : A3 W T cs = true) (hy : AU W T cs ls = true) : BH cs = 2 * Kl ls + (eY cs ls).length := by
 have hl := Aj hy
 have to_mem : ∀ t, t ∈ toK W T ls ↔ ∃ k, k ∈ eU ls ∧ (AF W T k (ati ls k)).toNat = t := by intro t; simp [toK]
 have hto : (toK W T ls).Nodup := by
  refine NT (WB ls) ?_
  intro x hx y hy2 e
  obtain ⟨t, e1, _, _, _, _, _, _, b1⟩ := Qm hr hy hx
  obtain ⟨s, e2, _, _, _, _, _, _, b2⟩ := Qm hr hy hy2
  rw [e1, e2] at e
  have : t = s := by simpa using e
  subst this
  omega
 have hback : ∀ t, t ∈ toK W T ls → t < cs.length ∧ atb cs t = true ∧ 3 ≤ ati ls t := by
  intro t ht
  obtain ⟨k, hk, e⟩ := (to_mem t).1 ht
  obtain ⟨s, e1, h1, _, _, _, h5, h6, _⟩ := Qm hr hy hk
  rw [e1] at e
  have : s = t := by simpa using e
  subst this
  refine ⟨h1, h5, ?_⟩
  rw [h6]
  have := (domK_mem.1 hk).2
  unfold Ca; omega
 have hbare : ∀ k, k ∈ eY cs ls ↔ k < cs.length ∧ atb cs k = true ∧ ati ls k = 0 := by intro k; simp [eY, and_assoc]
 have hcell : ∀ k, k ∈ eX cs ↔ k < cs.length ∧ atb cs k = true := by intro k; simp [eX]
 have hnd : (eU ls ++ (toK W T ls ++ eY cs ls)).Nodup := by
  refine Iw (WB ls) (Iw hto ((O9 _).filter _) ?_) ?_
  ·intro x hx hb
   have h1 := (hback x hx).2.2
   have h2 := ((hbare x).1 hb).2.2
   omega
  ·intro x hx hm
   have h0 := (domK_mem.1 hx).2
   rcases List.mem_append.1 hm with h1 | h1
   ·have := (hback x h1).2.2; omega
   ·have := ((hbare x).1 h1).2.2; omega
 have hle := YT (m := eX cs) hnd (by
  intro x hx
  rw [hcell]
  rcases List.mem_append.1 hx with h1 | h1
  ·obtain ⟨t, _, _, h2, _, h3, _⟩ := Qm hr hy h1
   exact ⟨h2, h3⟩
  ·rcases List.mem_append.1 h1 with h2 | h2
   ·exact ⟨(hback x h2).1, (hback x h2).2.1⟩
   ·exact ⟨((hbare x).1 h2).1, ((hbare x).1 h2).2.1⟩)
 have hge := YT (l := eX cs) (m := eU ls ++ (toK W T ls ++ eY cs ls)) ((O9 _).filter _) (by
  intro x hx
  obtain ⟨h1, h2⟩ := (hcell x).1 hx
  rw [List.mem_append, List.mem_append]
  by_cases hz : ati ls x = 0
  ·exact .inr (.inr ((hbare x).2 ⟨h1, h2, hz⟩))
  obtain ⟨v1, v4, _⟩ := Ib hy (show x < ls.length by omega) hz
  by_cases hd : ati ls x = 1 ∨ ati ls x = 2
  ·exact .inl (domK_mem.2 ⟨by omega, hd⟩)
  obtain ⟨k, _, hk, e⟩ := bd hr hy (show x < ls.length by omega) (by omega)
  exact .inr (.inl ((to_mem x).2 ⟨k, hk, by rw [e]; simp⟩)))
 simp only [List.length_append, YS, ZU, toK, List.length_map] at hle hge
 omega
def P2 (ls ws C : List Int) (n : Nat) : Prop := Km C ws = true ∧ ∀ j : Nat, j < ws.length → (ati ws j = 1 ∨ ati ws j = 2) → ati C j = if j < n ∨ ati ls j = ati ws j then ati ws j else 0
theorem Oe (bs : List Int) (p : Nat) (n : Int) (hb : bs.length ≤ 2000) (hB : Byt bs) (hp : p < 2 ^ 33) (hn0 : 0 ≤ n) (hn : n < 2 ^ 20) :
  SoundSet Tryz.prog KN [rdA bs p, .v (.int .i64 n)] (eK bs p 1000) := by
 refine Hb (md := md8) (ms := [true, false]) VV (by simp) ?_
 simp [Od]
 refine AE (Sa bs p 0 hb hB (by omega) (by omega) (by omega)) [0] (by simp) (by simp) (by simp) ?_
 rintro _ _ ⟨W, T, cs, ds, q, rfl, hcs, hds, hq, rfl⟩
 simp [Kw]
 refine AA (Ob W T cs ds (by omega) (by omega)) ?_
 obtain ⟨W2, T2, cs2, ds2, ls2, e, hk⟩ := nX W T cs ds
 rw [e]
 simp
 refine AE (AB bs q 14 hb hB (by omega)) [0] (by simp) (by simp) (by simp) ?_
 rintro _ _ ⟨x, x0, x1, rfl, rfl⟩
 obtain ⟨m, rfl⟩ : ∃ m : Nat, x = m := ⟨x.toNat, by omega⟩
 simp
 refine ki bs p (q + 1) n m W2 T2 cs2 ds2 ls2 [] hb hB (by omega) (by omega) (by omega) hk _ ?_
 intro q2 W T cs ds ls ps E hq2 hk e0 e1 e4 e7 e64
 obtain ⟨a1, a2, a3, a4, a5⟩ := Ra hk
 have t1 : (oss ps).take ps.length = oss ps := List.take_of_length_le (by simp [oss])
 have fin : ∀ (W T : Int) (cs : List Bool) (ds ls : List Int) (ps : List (List Int)) (q3 : Nat), cs.length ≤ 37 → ds.length ≤ 38 → ls.length ≤ 38 → ps.length ≤ 21 → (∀ x ∈ ps, x.length ≤ 37) → q3 ≤ q2 + 5 → eK bs p 1000 (bkO W T cs ds ls ps) [rdA bs q3, .bot] :=
  fun W T cs ds ls ps q3 h1 h2 h3 h4 h5 h6 => ⟨W, T, cs, ds, ls, ps, q3, h1, h2, h3, h4, h5, by omega, rfl, rfl⟩
 have a5' : ∀ x ∈ ps, x.length ≤ 37 := fun x hx => by have := a5 x hx; omega
 simp [e0, e1]
 refine AE (CF bs q2 n hb hB (by omega) (by omega)) [0] (by simp) (by simp) (by simp) ?_
 rintro _ _ ⟨o, q3, rfl, hq3, rfl⟩
 cases o with
 | false =>
   simp [AO, e0, e4, e7, e64]
   refine ⟨_, _, fin W T cs ds ls ps q3 (by omega) (by omega) (by omega) (by omega) a5' (by omega), ?_⟩
   simp [AO, e0, e1, e4, e7, e64, t1]
 | true =>
   simp [AO, e0, e4, e7, e64]
   refine AE (AB bs q3 4 hb hB (by omega)) [0] (by simp) (by simp) (by simp) ?_
   rintro _ _ ⟨y, y0, y1, rfl, rfl⟩
   by_cases c0 : y = 0
   ·have ea : AC ls ++ [.v (.int .i64 0)] = AC (ls ++ [0]) := by simp [AC]
    have t2 : (AC (ls ++ [0])).take (ls.length + 1) = AC (ls ++ [0]) := List.take_of_length_le (by simp)
    simp [c0, AO, e0, e4, e7, e64, ea]
    refine ⟨by omega, _, _, fin W T cs ds (ls ++ [0]) ps (q3 + 1) (by omega) (by omega) (by simp; omega) (by omega) a5' (by omega), ?_⟩
    simp [AO, e0, e1, e4, e7, e64, t1, t2]
   by_cases c1 : y = 1
   ·have ea : oss ps ++ [.os 1 [.v (.int .i64 9)]] = oss (ps ++ [[9]]) := by simp [oss, AC]
    have t2 : (oss (ps ++ [[9]])).take (ps.length + 1) = oss (ps ++ [[9]]) := List.take_of_length_le (by simp [oss])
    simp [c1, AO, e0, e4, e7, e64, ea]
    refine ⟨by omega, _, _, fin W T cs ds ls (ps ++ [[9]]) (q3 + 1) (by omega) (by omega) (by omega) (by simp; omega) (by intro x hx; simp at hx; rcases hx with h | rfl; exact a5' x h; simp) (by omega), ?_⟩
    simp [AO, e0, e1, e4, e7, e64, t2]
   by_cases c2 : y = 2
   ·simp [c0, c1, c2, AO, e0, e4, e7, e64]
    refine ⟨_, _, fin 0 0 [] [] [] [] (q3 + 1) (by simp) (by simp) (by simp) (by simp) (by simp) (by omega), ?_⟩
    simp [AO, e0, e1, e4, e7, e64, oss]
   ·have ea : AC ds ++ [.v (.int .i64 0)] = AC (ds ++ [0]) := by simp [AC]
    have t2 : (AC (ds ++ [0])).take (ds.length + 1) = AC (ds ++ [0]) := List.take_of_length_le (by simp)
    simp [c0, c1, c2, AO, e0, e4, e7, e64, ea]
    refine ⟨by omega, _, _, fin W T cs (ds ++ [0]) ls ps (q3 + 1) (by omega) (by simp; omega) (by omega) (by omega) a5' (by omega), ?_⟩
    simp [AO, e0, e1, e4, e7, e64, t1, t2]
end Go.Proofs.Dev
