/- Contracts of the functions of the program over slots and rows, each proved against the program itself; no condition beyond those that each theorem names. -/
import Derived.Test.YtfkmfobbgoflgaaGreatDoorAU
import Derived.Test.YtfkmfobbgoflgaaGreatDoorAV
import Derived.Test.YtfkmfobbgoflgaaGreatDoorProg
import Derived.Test.YtfkmfobbgoflgaaGreatDoorAS
import Derived.Test.YtfkmfobbgoflgaaGreatDoorAN
import Derived.Test.YtfkmfobbgoflgaaGreatDoorAI
import Derived.Test.YtfkmfobbgoflgaaGreatDoorAO
import Derived.Test.YtfkmfobbgoflgaaGreatDoorAR
set_option linter.unusedSimpArgs false
set_option linter.unusedVariables false
set_option maxRecDepth 100000
namespace Go.Proofs.Dev
theorem Uk (xs ys : List Int) (ha : xs.length < 2 ^ 40) :
  SoundAt Tryz.prog Fw [.sl 1 1 (AB xs), .sl 1 1 (AB ys)] (.v (.bool (decide (xs = ys)))) [.bot, .bot] := by
 refine AE (md := md0) (ms := [false, false]) LY (by simp) ?_
 simp [Fx]
 refine ⟨fun h => ?_, fun hl => ?_⟩
 ·intro e; subst e; exact h rfl
 refine AF (fun m E H => ∃ i : Nat, m = xs.length - i ∧ i ≤ xs.length ∧ xs.take i = ys.take i ∧ H = [] ∧ E = [(0, .sl 1 1 (AB xs)), (1, .sl 1 1 (AB ys)), (12, .v (.int .i64 xs.length)), (13, .v (.int .i64 i))]) xs.length ⟨0, by simp⟩ ?_
 rintro J hJ m E H ⟨i, rfl, hi, he, rfl, rfl⟩
 by_cases h : i < xs.length
 case neg =>
  have h1 : i = xs.length := by omega
  subst h1
  have e : xs = ys := by
   rw [List.take_length] at he
   rw [he]; exact List.take_of_length_le (by omega)
  simp [BZ, e]
 have h2 : i < ys.length := by omega
 have key : (ati xs i = ati ys i) → xs.take (i + 1) = ys.take (i + 1) := by
  intro e
  rw [List.take_succ_eq_append_getElem h, List.take_succ_eq_append_getElem (by omega), he]
  simp [ati, h, h2] at e
  rw [e]
 have key2 : ¬ (ati xs i = ati ys i) → ¬ xs = ys := fun e e2 => e (by rw [e2])
 by_cases e : ati xs i = ati ys i
 ·simp [BZ, h, h2, e]
  exact ⟨by omega, _, by omega, hJ _ _ _ ⟨i + 1, rfl, h, key e, rfl, rfl⟩⟩
 ·simp [BZ, h, h2, e, key2 e]
abbrev cpH (W T : Int) (cs : List Bool) (ds ls : List Int) (qs : List (List Int)) : AH :=
 [some (.box [.v (.int .i64 0), .v (.int .i64 0), .os 1 [], .os 1 [], .os 1 [], .os 1 []]), some (.box (hG 2 W T cs ds ls qs)),
  some (.arr 1 (AC cs)), some (.arr 1 (AB ds)), some (.arr 1 (AB ls)), some (.arr 1 (oss qs))]
def cpP (ps : List (List Int)) (i : Nat) : List (List Int) := ps.take i ++ List.replicate (ps.length - i) []
theorem Qx (ps : List (List Int)) {i : Nat} (h : i ≤ ps.length) : (cpP ps i).length = ps.length := by simp [cpP]; omega
theorem hO (ps : List (List Int)) {i : Nat} (h : i < ps.length) : (oss (cpP ps i)).set i (.os 1 (AB (pti ps i))) = oss (cpP ps (i + 1)) := by
 unfold oss
 rw [← List.map_set]
 congr 1
 unfold cpP
 rw [List.set_append_right _ _ (by simp; omega), show i - (ps.take i).length = 0 by simp; omega, show ps.length - i = (ps.length - (i + 1)) + 1 by omega, List.replicate_succ, List.set_cons_zero,
  D3 h]
 have e : ps.take (i + 1) = ps.take i ++ [ps[i]] := List.take_succ_eq_append_getElem h
 rw [e, List.append_assoc]; rfl
theorem mP (W T : Int) (cs : List Bool) (ds ls : List Int) (ps : List (List Int)) (hb : ps.length ≤ 100) (hp : ∀ p ∈ ps, p.length ≤ 100) (Qc : AExit → ES → AH → Prop)
  (hend : ∀ E : ES, get E 2 = .lp 0 0 0 0 → get E 3 = .lp 0 1 0 0 → Qc (.exit 0) E (cpH W T cs ds ls ps)) :
  D9 [(29, 1)] [2, 3, 29, 30, 31] (awp Tryz.prog mdo Ca) Qc [(2, .lp 0 0 0 0), (3, .lp 0 1 0 0), (29, .sl 1 1 (sls 1 ps)), (30, .v (.int .i64 ps.length)), (31, .v (.int .i64 0))] (cpH W T cs ds ls (cpP ps 0)) := by
 refine AF (fun m E H => ∃ i : Nat, m = ps.length - i ∧ i ≤ ps.length ∧ E = [(2, .lp 0 0 0 0), (3, .lp 0 1 0 0), (29, .sl 1 1 (sls 1 ps)), (30, .v (.int .i64 ps.length)), (31, .v (.int .i64 i))] ∧ H = cpH W T cs ds ls (cpP ps i)) ps.length ⟨0, by simp⟩ ?_
 rintro J hJ m E H ⟨i, rfl, hi, rfl, rfl⟩
 have hl := Qx ps hi
 by_cases h : i < ps.length
 case neg =>
  have h1 : i = ps.length := by omega
  subst h1
  have e : cpP ps ps.length = ps := by simp [cpP]
  simp [Ca]
  rw [e]
  exact hend _ rfl rfl
 have hpi : (pti ps i).length ≤ 100 := by rw [D3 h]; exact hp _ (List.getElem_mem h)
 have hset := hO ps h
 have hl2 := Qx ps (show i + 1 ≤ ps.length by omega)
 have nx := hJ (ps.length - (i + 1)) _ _ ⟨i + 1, rfl, h, rfl, rfl⟩
 simp only [cpH, hG, hl2, ← hset, Int.natCast_add, Int.natCast_one] at nx
 simp [Ca, h]
 (repeat' first | omega | apply And.intro) <;>
 ·refine AA (Ag (pti ps i) (by omega)) ?_
  simp [h, hl]
  exact ⟨by omega, _, by omega, nx⟩
set_option maxHeartbeats 8000000 in
theorem P9 (W T : Int) (cs : List Bool) (ds ls : List Int) (ps : List (List Int)) (hc : cs.length ≤ 100) (hd : ds.length ≤ 100) (hl : ls.length ≤ 100) (hb : ps.length ≤ 100) (hp : ∀ p ∈ ps, p.length ≤ 100) :
  SoundAt Tryz.prog JS [bkA W T cs ds ls ps] (bkO W T cs ds ls ps) [.bot] := by
 refine XB (md := mdo) (ms := [false]) P2 (by simp) ?_
 have t1 : (AB ds).take ds.length = AB ds := AD ds
 have t2 : (AB ls).take ls.length = AB ls := AD ls
 have t3 : (oss ps).take ps.length = oss ps := List.take_of_length_le (by simp [oss])
 have e0 : List.replicate ps.length (AV.os 1 []) = oss (cpP ps 0) := by simp [cpP, oss]
 have hl0 : (cpP ps 0).length = ps.length := Qx ps (by omega)
 have lp := mP W T cs ds ls ps hb hp
 simp only [cpH, hG, hl0, ← e0] at lp
 simp [G6]
 refine XC rfl rfl rfl ?_
 simp
 (repeat' first | omega | apply And.intro) <;>
 ·refine AA (Qu cs (by omega)) ?_
  simp
  (repeat' first | omega | apply And.intro) <;>
  ·refine AA (Ag ds (by omega)) ?_
   simp
   (repeat' first | omega | apply And.intro) <;>
   ·refine AA (Ag ls (by omega)) ?_
    simp [Gm]
    (repeat' first | omega | apply And.intro) <;>
    ·refine lp _ ?_
     intro E e2 e3
     simp [e2, e3, t1, t2, t3]
theorem b9 {W T : Int} {cs : List Bool} {ds ls : List Int} {k s w : Int} (hf : Af W T cs ds ls = true) (hk : k = 0 ∨ k = 1 ∨ k = 2 ∨ k = 3) : AO W T cs (Gv W T cs ds ls k s w) = true := by
 obtain ⟨hr, hd, hy, ho⟩ := AR hf
 unfold Gv
 split
 ·unfold B9
  split
  ·rename_i h; exact NC hr hy h
  ·exact hy
 split
 ·split
  ·rename_i h
   simp only [ET, decide_eq_true_eq] at h
   have := bi (k := s.toNat) hr hy (by omega) (by rw [show ((s.toNat : Nat) : Int) = s by omega]; exact h.2.2)
   rw [show ((s.toNat : Nat) : Int) = s by omega] at this
   exact this
  ·exact hy
 split
 ·by_cases hfl : Fk W T ls s = true
  ·exact (bq hr hy hfl).2
  ·have e : Gu W T ls s = ls := by simp [Gu, hfl]
   rw [e]; exact hy
 split
 ·exact (AR (Nd hf).1).2.2.1
 ·omega
theorem Nt (W T : Int) (cs : List Bool) (ds ls : List Int) (ps : List (List Int)) (k s w : Int) (h : A0 W T cs ds ls ps = true) (hs : s ≤ 9223372036854775807) :
  SoundAt Tryz.prog B3 [NZ W T cs ds ls ps, M4 k s w] (.v (.bool (doI W T cs ds ls ps k s w).1)) [NZ W T cs ds (doI W T cs ds ls ps k s w).2.1 (doI W T cs ds ls ps k s w).2.2, .bot] := by
 obtain ⟨hf, h20, hpf⟩ := Ad h
 obtain ⟨hr, hdg, hy, ho⟩ := AR hf
 obtain ⟨l36, ld, ll⟩ := Dm hf
 have hnl := RK W T cs ds ls k s w
 unfold doI
 refine bR Ub W T cs ds ls (Gv W T cs ds ls k s w) ps k s w (WS (k, s, w)) (Qw W T cs ds ls k s w) (Af W T cs ds (Gv W T cs ds ls k s w)) (by omega) (by omega) (by omega) (Qr (k, s, w)) ?_ ?_ (fun us h1 h2 => Ro us h1 h2)
 ·intro hn hk4
  have hk : k = 0 ∨ k = 1 ∨ k = 2 ∨ k = 3 := by have := Mz hn; omega
  have h0 := WQ W T cs ls s w (by omega) (by omega)
  have h1 := UW W T cs ls s (by omega) (by omega)
  have h2 := P3 W T cs ls s hr ll hs
  have h3 := LU W T cs ds ls hf
  have h4 := Uk (BA W T cs ds ls) ls (by rw [LO]; omega)
  have := WC P0 W T cs ds ls _ _ _ _ ps k s w _ _ _ _ h0 h1 h2 h3 h4
  have e : Rd k (gy W T cs ls s w) (Rn W T cs ls s) (Gu W T ls s) (BA W T cs ds ls) (YU W T cs ls s w) (LK W T cs ls s) (Fk W T ls s) (!decide (BA W T cs ds ls = ls)) =
    (Gv W T cs ds ls k s w, Qw W T cs ds ls k s w) := by
   rcases hk with rfl | rfl | rfl | rfl
   ·simp [Rd, Gv, Qw, gy, YU, hr, hy]
   ·simp [Rd, Gv, Qw, Rn, LK, hr, hy]
   ·simp [Rd, Gv, Qw]
   ·simp [Rd, Gv, Qw]
  rw [e] at this
  exact this
 ·intro hn hk4
  have hk : k = 0 ∨ k = 1 ∨ k = 2 ∨ k = 3 := by have := Mz hn; omega
  have hy2 := b9 (s := s) (w := w) hf hk
  have hok : okB W T cs ds (Gv W T cs ds ls k s w) = true := by simp [okB, hr, hdg, hy2]
  have e : Af W T cs ds (Gv W T cs ds ls k s w) = Jp (Bx W T ds (Gv W T cs ds ls k s w)) := by simp [Af, hok]
  rw [e]
  exact Db W T cs ds _ hok
abbrev kM (W T : Int) (cs : List Bool) (ds : List Int) : List Int → List (List Int) → de → Bool × List Int × List (List Int) := fun l p d => doI W T cs ds l p d.1 d.2.1 d.2.2
def jG (W T : Int) (cs : List Bool) (ds ls : List Int) (ps : List (List Int)) (xs : List de) : List Int × List (List Int) × Nat := J8 (kM W T cs ds) ls ps xs
theorem fK {W T : Int} {cs : List Bool} {ds : List Int} : ∀ (xs : List de) (ls : List Int) (ps : List (List Int)), A0 W T cs ds ls ps = true → A0 W T cs ds (jG W T cs ds ls ps xs).1 (jG W T cs ds ls ps xs).2.1 = true
 | [], ls, ps, h => h
 | x :: xs, ls, ps, h => by
   have := fK xs _ _ (dp x.1 x.2.1 x.2.2 h)
   exact this
def MZ (ls ws : List Int) (k : Nat) : List (Int × Int × Int) := if (ati ls k = 1 ∨ ati ls k = 2) ∧ ati ws k ≠ ati ls k then [(1, (k : Int), 0)] else []
def WT (ls ws : List Int) (k : Nat) : List (Int × Int × Int) := if (ati ws k = 1 ∨ ati ws k = 2) ∧ ati ws k ≠ ati ls k then [(0, (k : Int), ati ws k)] else []
def BR (ls ws : List Int) (n : Nat) : List (Int × Int × Int) := (List.range n).flatMap (MZ ls ws)
def DN (ls ws : List Int) (n : Nat) : List (Int × Int × Int) := (List.range n).flatMap (WT ls ws)
theorem Ma (ls ws : List Int) (n : Nat) : BR ls ws (n + 1) = BR ls ws n ++ MZ ls ws n := by simp [BR, List.range_succ]
theorem OM (ls ws : List Int) (n : Nat) : DN ls ws (n + 1) = DN ls ws n ++ WT ls ws n := by simp [DN, List.range_succ]
theorem GS (ls ws : List Int) : ∀ n, (BR ls ws n).length ≤ n
 | 0 => by simp [BR]
 | n + 1 => by
   have := GS ls ws n
   rw [Ma, List.length_append]
   have : (MZ ls ws n).length ≤ 1 := by unfold MZ; split <;> simp
   omega
theorem HK (ls ws : List Int) : ∀ n, (DN ls ws n).length ≤ n
 | 0 => by simp [DN]
 | n + 1 => by
   have := HK ls ws n
   rw [OM, List.length_append]
   have : (WT ls ws n).length ≤ 1 := by unfold WT; split <;> simp
   omega
def cA (ls ws : List Int) : List (Int × Int × Int) := BR ls ws ws.length ++ DN ls ws ws.length
def Ul (W T : Int) (cs : List Bool) : List Int := if Az W T cs then BO cs else []
def kN (W T : Int) (cs : List Bool) (ds ls : List Int) (ps : List (List Int)) : List (Int × Int × Int) :=
 if (A0 W T cs ds ls ps && Zs W T cs ds (Ul W T cs)) = true then cA ls (Wb W T cs ds (Ul W T cs)) else []
theorem TZ (W T : Int) (cs : List Bool) (ds ls : List Int) (ps : List (List Int)) (ws : List Int) (sb : Bool) (hc : cs.length < 2 ^ 40) (hd : ds.length < 2 ^ 40) (hl : ls.length < 2 ^ 40) (hb : ps.length < 2 ^ 40) (hp : ∀ p ∈ ps, p.length < 2 ^ 40)
  (hws : A0 W T cs ds ls ps = true → sb = true → ls.length = ws.length ∧ ws.length ≤ 36) :
  awp Tryz.prog md3 Df (Fin [RV.t 2] 105 1 [false] (AV.os 3 (dsA (if (A0 W T cs ds ls ps && sb) = true then cA ls ws else []))) [AV.bot])
   [(1, .lp 0 0 0 0), (3, .ls 3 1 0 0), (4, .sl 0 1 (AB ws)), (5, .v (.bool sb))]
   [some (.box [.v (.int .i64 W), .v (.int .i64 T), .sl 1 1 (AC cs), .sl 1 1 (AB ds), .sl 1 1 (AB ls), .sl 1 1 (sls 1 ps)]), some (.arr 3 [])] := by
 cases sb with
 | false => simp [Df]
 | true =>
 simp [Df]
 refine AA (CH W T cs ds ls ps hc hd hl hb hp) ?_
 cases hbk : A0 W T cs ds ls ps with
 | false => simp
 | true =>
 obtain ⟨e1, e2⟩ := hws hbk rfl
 simp
 refine AF (fun m E H => ∃ i : Nat, m = ws.length - i ∧ i ≤ ws.length ∧ H = [some (.box [.v (.int .i64 W), .v (.int .i64 T), .sl 1 1 (AC cs), .sl 1 1 (AB ds), .sl 1 1 (AB ls), .sl 1 1 (sls 1 ps)]), some (.arr 3 (dsA (BR ls ws i)))] ∧
  E = [(1, .lp 0 0 0 0), (3, .ls 3 1 0 (BR ls ws i).length), (4, .sl 0 1 (AB ws)), (6, .v (.int .i64 i))]) ws.length ⟨0, by simp [BR]⟩ ?_
 rintro J hJ m E H ⟨i, rfl, hi, rfl, rfl⟩
 have hlen := GS ls ws i
 have hsuc := Ma ls ws i
 by_cases h : i < ws.length
 ·have h2 : i < ls.length := by omega
  have nx1 : MZ ls ws i = [] → Cz J (ws.length - i) [(1, .lp 0 0 0 0), (3, .ls 3 1 0 (BR ls ws i).length), (4, .sl 0 1 (AB ws)), (6, .v (.int .i64 (i + 1)))]
    [some (.box [.v (.int .i64 W), .v (.int .i64 T), .sl 1 1 (AC cs), .sl 1 1 (AB ds), .sl 1 1 (AB ls), .sl 1 1 (sls 1 ps)]), some (.arr 3 (dsA (BR ls ws i)))] :=
   fun e => ⟨_, by omega, hJ _ _ _ ⟨i + 1, rfl, h, by rw [hsuc, e, List.append_nil], by rw [hsuc, e, List.append_nil]; rfl⟩⟩
  have nx2 : MZ ls ws i = [(1, (i : Int), 0)] → Cz J (ws.length - i) [(1, .lp 0 0 0 0), (3, .ls 3 1 0 ((BR ls ws i).length + 1)), (4, .sl 0 1 (AB ws)), (6, .v (.int .i64 (i + 1)))]
    [some (.box [.v (.int .i64 W), .v (.int .i64 T), .sl 1 1 (AC cs), .sl 1 1 (AB ds), .sl 1 1 (AB ls), .sl 1 1 (sls 1 ps)]), some (.arr 3 (dsA (BR ls ws i) ++ [.agg [.v (.int .i64 1), .v (.int .i64 i), .v (.int .i64 0)]]))] :=
   fun e => ⟨_, by omega, hJ _ _ _ ⟨i + 1, rfl, h, by rw [hsuc, e, Mw]; rfl, by rw [hsuc, e, List.length_append]; rfl⟩⟩
  have hio : i < 36 := by omega
  by_cases hw1 : ati ls i = 1
  ·by_cases hw3 : ati ws i = 1
   ·have nx := nx1 (by simp [MZ, hw1, hw3])
    simp [BJ, h, h2, hw1, hw3]
    exact ⟨by omega, nx⟩
   ·have nx := nx2 (by simp [MZ, hw1, hw3])
    simp [BJ, h, h2, hw1, hw3]
    exact ⟨by omega, by omega, nx⟩
  ·by_cases hw2 : ati ls i = 2
   ·by_cases hw3 : ati ws i = 2
    ·have nx := nx1 (by simp [MZ, hw2, hw3])
     simp [BJ, h, h2, hw2, hw3]
     exact ⟨by omega, nx⟩
    ·have nx := nx2 (by simp [MZ, hw2, hw3])
     simp [BJ, h, h2, hw2, hw3]
     exact ⟨by omega, by omega, nx⟩
   ·have nx := nx1 (by simp [MZ, hw1, hw2])
    simp [BJ, h, h2, hw1, hw2]
    exact ⟨by omega, nx⟩
 ·have : i = ws.length := by omega
  subst this
  simp [BJ]
  clear hJ J
  have hL : (BR ls ws ws.length).length ≤ 36 := by omega
  have hE : cA ls ws = BR ls ws ws.length ++ DN ls ws ws.length := rfl
  rw [hE]
  generalize BR ls ws ws.length = L at *
  refine AF (fun m E H => ∃ i : Nat, m = ws.length - i ∧ i ≤ ws.length ∧ H = [some (.box [.v (.int .i64 W), .v (.int .i64 T), .sl 1 1 (AC cs), .sl 1 1 (AB ds), .sl 1 1 (AB ls), .sl 1 1 (sls 1 ps)]), some (.arr 3 (dsA (L ++ DN ls ws i)))] ∧
   E = [(1, .lp 0 0 0 0), (3, .ls 3 1 0 (L ++ DN ls ws i).length), (4, .sl 0 1 (AB ws)), (7, .v (.int .i64 i))]) ws.length ⟨0, by simp [DN]⟩ ?_
  rintro J hJ m E H ⟨i, rfl, hi, rfl, rfl⟩
  have hlen : (L ++ DN ls ws i).length ≤ 36 + i := by
   have := HK ls ws i
   rw [List.length_append]; omega
  have hsuc : L ++ DN ls ws (i + 1) = (L ++ DN ls ws i) ++ WT ls ws i := by rw [OM, List.append_assoc]
  by_cases h : i < ws.length
  case neg =>
   have : i = ws.length := by omega
   subst this
   simp only [BK]
   generalize L ++ DN ls ws ws.length = M at *
   simp
   exact List.take_of_length_le (by simp)
  have h2 : i < ls.length := by omega
  generalize L ++ DN ls ws i = M at *
  have nx1 : WT ls ws i = [] → Cz J (ws.length - i) [(1, .lp 0 0 0 0), (3, .ls 3 1 0 M.length), (4, .sl 0 1 (AB ws)), (7, .v (.int .i64 (i + 1)))]
    [some (.box [.v (.int .i64 W), .v (.int .i64 T), .sl 1 1 (AC cs), .sl 1 1 (AB ds), .sl 1 1 (AB ls), .sl 1 1 (sls 1 ps)]), some (.arr 3 (dsA (M)))] :=
   fun e => ⟨_, by omega, hJ _ _ _ ⟨i + 1, rfl, h, by rw [hsuc, e, List.append_nil], by rw [hsuc, e, List.append_nil]; rfl⟩⟩
  have nx2 : WT ls ws i = [(0, (i : Int), ati ws i)] → Cz J (ws.length - i) [(1, .lp 0 0 0 0), (3, .ls 3 1 0 (M.length + 1)), (4, .sl 0 1 (AB ws)), (7, .v (.int .i64 (i + 1)))]
    [some (.box [.v (.int .i64 W), .v (.int .i64 T), .sl 1 1 (AC cs), .sl 1 1 (AB ds), .sl 1 1 (AB ls), .sl 1 1 (sls 1 ps)]), some (.arr 3 (dsA (M) ++ [.agg [.v (.int .i64 0), .v (.int .i64 i), .v (.int .i64 (ati ws i))]]))] :=
   fun e => ⟨_, by omega, hJ _ _ _ ⟨i + 1, rfl, h, by rw [hsuc, e, Mw]; rfl, by rw [hsuc, e, List.length_append]; rfl⟩⟩
  have hio : i < 36 := by omega
  by_cases hw1 : ati ws i = 1
  ·by_cases hw3 : ati ls i = 1
   ·have nx := nx1 (by simp [WT, hw1, hw3])
    simp [BK, h, h2, hw1, hw3]
    exact ⟨by omega, nx⟩
   ·have hw3' : ¬ (1 : Int) = ati ls i := fun e => hw3 e.symm
    have nx := nx2 (by simp [WT, hw1, hw3'])
    rw [hw1] at nx
    simp [BK, h, h2, hw1, hw3, hw3']
    exact ⟨by omega, by omega, nx⟩
  ·by_cases hw2 : ati ws i = 2
   ·by_cases hw3 : ati ls i = 2
    ·have nx := nx1 (by simp [WT, hw2, hw3])
     simp [BK, h, h2, hw2, hw3]
     exact ⟨by omega, nx⟩
    ·have hw3' : ¬ (2 : Int) = ati ls i := fun e => hw3 e.symm
     have nx := nx2 (by simp [WT, hw2, hw3'])
     rw [hw2] at nx
     simp [BK, h, h2, hw2, hw3, hw3']
     exact ⟨by omega, by omega, nx⟩
   ·have nx := nx1 (by simp [WT, hw1, hw2])
    simp [BK, h, h2, hw1, hw2]
    exact ⟨by omega, nx⟩
theorem Qy {W T : Int} {cs : List Bool} {ds ls : List Int} {ps : List (List Int)} {b : List Int} (h1 : A0 W T cs ds ls ps = true) (h2 : Zs W T cs ds b = true) :
  ls.length = (Wb W T cs ds b).length ∧ (Wb W T cs ds b).length ≤ 36 ∧ ds.length = cs.length := by
 have hok := Lv (Cm (Mx h1))
 unfold Zs at h2
 unfold Wb
 cases hf : BL W T cs ds b with
 | none => rw [hf] at h2; cases h2
 | some x =>
   have e := (Kk hf).2
   have := AZ hok.1
   simp only [Option.getD_some]
   exact ⟨by omega, by omega, hok.2.1⟩
theorem Ta (W T : Int) (cs : List Bool) (ds ls : List Int) (ps : List (List Int)) (hc : cs.length < 2 ^ 40) (hd : ds.length < 2 ^ 40) (hl : ls.length < 2 ^ 40) (hb : ps.length < 2 ^ 40) (hp : ∀ p ∈ ps, p.length < 2 ^ 40) :
  SoundAt Tryz.prog MA [bkA W T cs ds ls ps] (.os 3 (dsA (kN W T cs ds ls ps))) [.bot] := by
 have tl := TZ W T cs ds ls ps (Wb W T cs ds (Ul W T cs)) (Zs W T cs ds (Ul W T cs)) hc hd hl hb hp (fun h1 h2 => ⟨(Qy h1 h2).1, (Qy h1 h2).2.1⟩)
 refine AE (md := md3) (ms := [false]) TI (by simp) ?_
 simp [MB]
 (repeat' first | apply And.intro) <;>
 ·refine AA (IA W T cs hc) ?_
  simp
  have hbl : (if Az W T cs = true then BO cs else []).length < 2 ^ 40 := by split <;> simp [BO] <;> omega
  (repeat' first | apply And.intro) <;>
  ·refine AA (P5 W T cs ds _ hc hd hbl) ?_
   simp
   exact tl
theorem VB {α β : Type} (c : α → Bool) (g : α → β) : ∀ l : List α, (l.flatMap fun k => if c k = true then [g k] else []) = (l.filter c).map g
 | [] => rfl
 | a :: l => by
   rw [List.flatMap_cons, VB c g l, List.filter_cons]
   cases c a <;> simp
def cC (ls : List Int) : List Nat := (List.range ls.length).filter fun k => decide (ati ls k = 1 ∨ ati ls k = 2)
theorem domK_mem {ls : List Int} {k : Nat} : k ∈ cC ls ↔ k < ls.length ∧ (ati ls k = 1 ∨ ati ls k = 2) := by simp [cC]
theorem cD (W T : Int) (ds ls : List Int) : Bx W T ds ls = (cC ls).map fun k : Nat => W6 (ati ds k) (ati ds (AJ W T k (ati ls k))) := by
 have := VB (fun k : Nat => decide (ati ls k = 1 ∨ ati ls k = 2)) (fun k : Nat => W6 (ati ds k) (ati ds (AJ W T k (ati ls k)))) (List.range ls.length)
 simp only [decide_eq_true_eq] at this
 exact this
theorem QA {W T : Int} {cs : List Bool} {ls : List Int} {k : Nat} (hr : Az W T cs = true) (hy : AO W T cs ls = true) (hk : k ∈ cC ls) :
  ∃ t : Nat, AJ W T k (ati ls k) = t ∧ t < cs.length ∧ k < cs.length ∧ k < t ∧ atb cs k = true ∧ atb cs t = true ∧ ati ls t = Ck (ati ls k) ∧ AJ W T t (ati ls t) = k := by
 obtain ⟨w1, w2, t1, t2, l1, _⟩ := CK hr
 obtain ⟨hk1, hw⟩ := domK_mem.1 hk
 have hl := An hy
 obtain ⟨v1, v4, g3, g4, g5, g6⟩ := IB hy hk1 (by omega)
 have sb := DK (W := W) (T := T) (k := k) (way := ati ls k) w1 (by omega) (by omega) g4
 obtain ⟨t, ht⟩ : ∃ t : Nat, AJ W T k (ati ls k) = t := ⟨(AJ W T k (ati ls k)).toNat, by omega⟩
 have hlt : (k : Int) < AJ W T k (ati ls k) := by
  unfold AJ at g4 ⊢
  rcases hw with h | h <;> rw [h] at g4 ⊢ <;> simp at g4 ⊢ <;> split at g4 <;> first | omega | (rename_i hc; rw [if_pos hc]; omega)
 rw [ht] at g5 g6 sb hlt
 exact ⟨t, ht, by omega, by omega, by omega, g3, g5, g6, by rw [g6]; exact sb.1⟩
theorem Zw {W T : Int} {cs : List Bool} {ls : List Int} {j : Nat} (hr : Az W T cs = true) (hy : AO W T cs ls = true) (hj : j < ls.length) (hw : 3 ≤ ati ls j) :
  ∃ k : Nat, AJ W T j (ati ls j) = k ∧ k ∈ cC ls ∧ AJ W T k (ati ls k) = j := by
 obtain ⟨w1, w2, t1, t2, l1, _⟩ := CK hr
 have hl := An hy
 obtain ⟨v1, v4, g3, g4, g5, g6⟩ := IB hy hj (by omega)
 have sb := DK (W := W) (T := T) (k := j) (way := ati ls j) w1 (by omega) (by omega) g4
 obtain ⟨k, hk⟩ : ∃ k : Nat, AJ W T j (ati ls j) = k := ⟨(AJ W T j (ati ls j)).toNat, by omega⟩
 rw [hk] at g6 sb
 have hb : Ck (ati ls j) = 1 ∨ Ck (ati ls j) = 2 := by unfold Ck; omega
 refine ⟨k, hk, domK_mem.2 ⟨by omega, by omega⟩, by rw [g6]; exact sb.1⟩
def cE (cs : List Bool) : List Nat := (List.range cs.length).filter fun k : Nat => atb cs k
def cF (cs : List Bool) (ls : List Int) : List Nat := (List.range cs.length).filter fun k : Nat => atb cs k && decide (ati ls k = 0)
def toK (W T : Int) (ls : List Int) : List Nat := (cC ls).map fun k : Nat => (AJ W T k (ati ls k)).toNat
theorem QB (cs : List Bool) : ∀ n, n ≤ cs.length → Bg (cs.take n) = ((List.range n).filter fun k : Nat => atb cs k).length
 | 0, _ => by simp [Bg]
 | n + 1, h => by
   rw [N6 cs n (by omega), QB cs n (by omega), List.range_succ, List.filter_append, List.length_append]
   congr 1
   by_cases hc : atb cs n = true <;> simp [hc]
theorem XZ (cs : List Bool) : (cE cs).length = Bg cs := by
 have := QB cs cs.length (Nat.le_refl _)
 rw [List.take_length] at this
 exact this.symm
theorem ON (n : Nat) : (List.range n).Nodup := List.nodup_range
theorem VC (ls : List Int) : (cC ls).Nodup := (ON _).filter _
theorem Mb {α β : Type} {f : α → β} : ∀ {l : List α}, l.Nodup → (∀ x ∈ l, ∀ y ∈ l, f x = f y → x = y) → (l.map f).Nodup
 | [], _, _ => by simp
 | a :: l, hn, h => by
   rw [List.nodup_cons] at hn
   rw [List.map_cons, List.nodup_cons]
   refine ⟨?_, Mb hn.2 fun x hx y hy => h x (by simp [hx]) y (by simp [hy])⟩
   intro hm
   obtain ⟨y, hy, e⟩ := List.mem_map.1 hm
   have := h y (by simp [hy]) a (by simp) e
   subst this
   exact hn.1 hy
theorem IM {α : Type} : ∀ {l m : List α}, l.Nodup → m.Nodup → (∀ x ∈ l, x ∉ m) → (l ++ m).Nodup
 | [], m, _, hm, _ => hm
 | a :: l, m, hl, hm, h => by
   rw [List.nodup_cons] at hl
   rw [List.cons_append, List.nodup_cons]
   refine ⟨?_, IM hl.2 hm fun x hx => h x (by simp [hx])⟩
   intro hx
   rcases List.mem_append.1 hx with h1 | h1
   ·exact hl.1 h1
   ·exact h a (by simp) h1
theorem Xa {l m : List Nat} (hn : l.Nodup) (h : ∀ x ∈ l, x ∈ m) : l.length ≤ m.length := by
 have h1 : (l.map Int.ofNat).Nodup := Mb hn fun x _ y _ e => by simp at e; omega
 have := ZD (m := m.map Int.ofNat) h1 (by
  intro x hx
  obtain ⟨y, hy, rfl⟩ := List.mem_map.1 hx
  exact List.mem_map.2 ⟨y, h y hy, rfl⟩)
 simpa using this
theorem YX (ls : List Int) : (cC ls).length = Ie ls := by
 have h1 := Zo 1 1 [] ls
 rw [cD, List.length_map] at h1
 exact h1
theorem YY {W T : Int} {cs : List Bool} {ls : List Int} (hr : Az W T cs = true) (hy : AO W T cs ls = true) : Bg cs = 2 * Ie ls + (cF cs ls).length := by
 have hl := An hy
 have to_mem : ∀ t, t ∈ toK W T ls ↔ ∃ k, k ∈ cC ls ∧ (AJ W T k (ati ls k)).toNat = t := by intro t; simp [toK]
 have hto : (toK W T ls).Nodup := by
  refine Mb (VC ls) ?_
  intro x hx y hy2 e
  obtain ⟨t, e1, _, _, _, _, _, _, b1⟩ := QA hr hy hx
  obtain ⟨s, e2, _, _, _, _, _, _, b2⟩ := QA hr hy hy2
  rw [e1, e2] at e
  have : t = s := by simpa using e
  subst this
  omega
 have hback : ∀ t, t ∈ toK W T ls → t < cs.length ∧ atb cs t = true ∧ 3 ≤ ati ls t := by
  intro t ht
  obtain ⟨k, hk, e⟩ := (to_mem t).1 ht
  obtain ⟨s, e1, h1, _, _, _, h5, h6, _⟩ := QA hr hy hk
  rw [e1] at e
  have : s = t := by simpa using e
  subst this
  refine ⟨h1, h5, ?_⟩
  rw [h6]
  have := (domK_mem.1 hk).2
  unfold Ck; omega
 have hbare : ∀ k, k ∈ cF cs ls ↔ k < cs.length ∧ atb cs k = true ∧ ati ls k = 0 := by intro k; simp [cF, and_assoc]
 have hcell : ∀ k, k ∈ cE cs ↔ k < cs.length ∧ atb cs k = true := by intro k; simp [cE]
 have hnd : (cC ls ++ (toK W T ls ++ cF cs ls)).Nodup := by
  refine IM (VC ls) (IM hto ((ON _).filter _) ?_) ?_
  ·intro x hx hb
   have h1 := (hback x hx).2.2
   have h2 := ((hbare x).1 hb).2.2
   omega
  ·intro x hx hm
   have h0 := (domK_mem.1 hx).2
   rcases List.mem_append.1 hm with h1 | h1
   ·have := (hback x h1).2.2; omega
   ·have := ((hbare x).1 h1).2.2; omega
 have hle := Xa (m := cE cs) hnd (by
  intro x hx
  rw [hcell]
  rcases List.mem_append.1 hx with h1 | h1
  ·obtain ⟨t, _, _, h2, _, h3, _⟩ := QA hr hy h1
   exact ⟨h2, h3⟩
  ·rcases List.mem_append.1 h1 with h2 | h2
   ·exact ⟨(hback x h2).1, (hback x h2).2.1⟩
   ·exact ⟨((hbare x).1 h2).1, ((hbare x).1 h2).2.1⟩)
 have hge := Xa (l := cE cs) (m := cC ls ++ (toK W T ls ++ cF cs ls)) ((ON _).filter _) (by
  intro x hx
  obtain ⟨h1, h2⟩ := (hcell x).1 hx
  rw [List.mem_append, List.mem_append]
  by_cases hz : ati ls x = 0
  ·exact .inr (.inr ((hbare x).2 ⟨h1, h2, hz⟩))
  obtain ⟨v1, v4, _⟩ := IB hy (show x < ls.length by omega) hz
  by_cases hd : ati ls x = 1 ∨ ati ls x = 2
  ·exact .inl (domK_mem.2 ⟨by omega, hd⟩)
  obtain ⟨k, _, hk, e⟩ := Zw hr hy (show x < ls.length by omega) (by omega)
  exact .inr (.inl ((to_mem x).2 ⟨k, hk, by rw [e]; simp⟩)))
 simp only [List.length_append, XZ, YX, toK, List.length_map] at hle hge
 omega
end Go.Proofs.Dev
