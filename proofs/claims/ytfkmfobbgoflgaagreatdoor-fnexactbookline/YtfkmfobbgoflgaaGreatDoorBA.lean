/- Contracts of the functions of the program over slots and rows, each proved against the program itself; no condition beyond those that each theorem names. -/
import Derived.Test.YtfkmfobbgoflgaaGreatDoorAW
import Derived.Test.YtfkmfobbgoflgaaGreatDoorAX
import Derived.Test.YtfkmfobbgoflgaaGreatDoorAM
import Derived.Test.YtfkmfobbgoflgaaGreatDoorAQ
import Derived.Test.YtfkmfobbgoflgaaGreatDoorAY
import Derived.Test.YtfkmfobbgoflgaaGreatDoorAZ
import Derived.Test.YtfkmfobbgoflgaaGreatDoorAJ
import Derived.Test.YtfkmfobbgoflgaaGreatDoorAN
import Derived.Test.YtfkmfobbgoflgaaGreatDoorAV
set_option linter.unusedSimpArgs false
set_option linter.unusedVariables false
set_option maxRecDepth 100000
namespace Go.Proofs.Dev
open Go.RowKit
def cg (b : Bool) : List UInt8 := if b then [121, 101, 115] else [110, 111]
def okT (b : Bool) : List UInt8 := if b then [111, 107] else [110, 111]
def Xh : List UInt8 := [110, 111, 110, 101]
def kQ (W T : Int) (cs : List Bool) (ds ls : List Int) (ps : List (List Int)) (s : List UInt8) : List UInt8 :=
 if s = [115, 104, 111, 119] then UA W T cs ls else
 if s = [100, 105, 103, 105, 116, 115] then Sc W T cs ds else
 if s = [108, 101, 102, 116] then QS (Bg cs - 2 * Ie ls) else
 if s = [112, 97, 115, 116] then QS ps.length else
 if s = [115, 111, 108, 118, 101, 100] then cg (JZ cs ls) else
 if s = [100, 101, 97, 100] then cg (Ra W T cs ds ls) else
 if s = [104, 105, 110, 116] then (if Kj W T cs ds ls < 0 then Xh else B8 (0, Kj W T cs ds ls, M7 W T cs ds ls)) else
 [119, 104, 97, 116]
def Z4 (W T : Int) (cs : List Bool) (ds ls : List Int) : List de := if Zs W T cs ds (BO cs) = true then cA ls (Wb W T cs ds (BO cs)) else []
def FA (W T : Int) (cs : List Bool) (ds ls : List Int) (ps : List (List Int)) (s : List UInt8) : List Int × List (List Int) × List UInt8 :=
 if Cf s = true then ((doI W T cs ds ls ps (Cg s).1 (Cg s).2.1 (Cg s).2.2).2.1, (doI W T cs ds ls ps (Cg s).1 (Cg s).2.1 (Cg s).2.2).2.2, okT (doI W T cs ds ls ps (Cg s).1 (Cg s).2.1 (Cg s).2.2).1) else
 if s = [101, 110, 100] then ((jG W T cs ds ls ps (Z4 W T cs ds ls)).1, (jG W T cs ds ls ps (Z4 W T cs ds ls)).2.1, if Z4 W T cs ds ls = [] then Xh else [111, 107]) else
 (ls, ps, kQ W T cs ds ls ps s)
theorem iH {W T : Int} {cs : List Bool} {ds ls : List Int} {ps : List (List Int)} (s : List UInt8) (h : A0 W T cs ds ls ps = true) : A0 W T cs ds (FA W T cs ds ls ps s).1 (FA W T cs ds ls ps s).2.1 = true := by
 unfold FA
 split
 ·exact dp _ _ _ h
 split
 ·exact fK _ _ _ h
 ·exact h
theorem cP {s : List UInt8} (h : Cf s = true) : 0 ≤ (Cg s).2.1 ∧ (Cg s).2.1 ≤ 99 := by
 have := (SZ h).2
 simp only [EN, Bool.and_eq_true, decide_eq_true_eq] at this
 exact this.1.2
@[simp] def mdl (f : Nat) : List Bool := if f = 65 ∨ f = Ac then [true, false] else []
theorem VG (b : Bool) : SoundAt Tryz.prog VE [.v (.bool b)] (.v (tx (cg b))) [.bot] := by
 refine AE (md := mdl) (ms := [false]) Zz (by simp) ?_
 cases b <;> simp [VF, cg]
theorem iI (W T : Int) (cs : List Bool) (ds ls : List Int) (ps : List (List Int)) (s : List UInt8) (h : A0 W T cs ds ls ps = true) (hs : s.length < 2 ^ 30) (hr : Cf s = true) :
  SoundAt Tryz.prog Ac [NZ W T cs ds ls ps, .v (tx s)] (.v (tx (FA W T cs ds ls ps s).2.2)) [NZ W T cs ds (FA W T cs ds ls ps s).1 (FA W T cs ds ls ps s).2.1, .bot] := by
 have rd := Aw s hs
 have dd := Nt W T cs ds ls ps (Cg s).1 (Cg s).2.1 (Cg s).2.2 h (by have := cP hr; omega)
 refine AE (md := mdl) (ms := [true, false]) Am (by simp) ?_
 rw [hr] at rd
 simp only [FA, hr, if_true]
 simp only [Ej, A8] at rd
 generalize Cg s = d at *
 generalize doI W T cs ds ls ps d.1 d.2.1 d.2.2 = r at *
 obtain ⟨b, l2, p2⟩ := r
 have htl : (AB l2).take l2.length = AB l2 := AD l2
 have hto : (oss p2).take p2.length = oss p2 := List.take_of_length_le (by simp [oss])
 simp [Aj]
 refine AA rd ?_
 simp
 refine AA dd ?_
 cases b <;> simp [okT, htl, hto]
theorem VH : Cf [101, 110, 100] = false := by decide
theorem WV : Cf [115, 104, 111, 119] = false := by decide
theorem QD : Cf [100, 105, 103, 105, 116, 115] = false := by decide
theorem WW : Cf [108, 101, 102, 116] = false := by decide
theorem WX : Cf [112, 97, 115, 116] = false := by decide
theorem QE : Cf [115, 111, 108, 118, 101, 100] = false := by decide
theorem WY : Cf [100, 101, 97, 100] = false := by decide
theorem WZ : Cf [104, 105, 110, 116] = false := by decide
theorem CE {s : List UInt8} (h : Cf s = false) : Cg s = (0, 0, 0) := by simp [Cg, h]
theorem Yd {W T : Int} {cs : List Bool} {ds ls : List Int} {ps : List (List Int)} (h : A0 W T cs ds ls ps = true) : kN W T cs ds ls ps = Z4 W T cs ds ls := by
 obtain ⟨hf, _, _⟩ := Ad h
 obtain ⟨hr, _, _, _⟩ := AR hf
 have eb : Ul W T cs = BO cs := by simp [Ul, hr]
 unfold kN Z4
 rw [h, eb]
 rfl
theorem ZN {W T : Int} {cs : List Bool} {ds ls : List Int} {ps : List (List Int)} (h : A0 W T cs ds ls ps = true) : 0 ≤ (Bg cs : Int) - 2 * Ie ls := by
 obtain ⟨hf, _, _⟩ := Ad h
 obtain ⟨hr, _, hy, _⟩ := AR hf
 have := YY hr hy
 omega
theorem d8 (W T : Int) (cs : List Bool) (ds ls : List Int) (ps : List (List Int)) (h : A0 W T cs ds ls ps = true) :
  SoundAt Tryz.prog Ac [NZ W T cs ds ls ps, .v (tx [101, 110, 100])] (.v (tx (FA W T cs ds ls ps [101, 110, 100]).2.2)) [NZ W T cs ds (FA W T cs ds ls ps [101, 110, 100]).1 (FA W T cs ds ls ps [101, 110, 100]).2.1, .bot] := by
 have rd := Aw [101, 110, 100] (by decide)
 have ed := NA W T cs ds ls ps h
 have ee : (if Zs W T cs ds (BO cs) = true then cA ls (Wb W T cs ds (BO cs)) else []) = Z4 W T cs ds ls := rfl
 rw [ee] at ed
 rw [VH, CE VH] at rd
 simp only [Ej, A8] at rd
 simp only [FA, VH, if_true, Bool.false_eq_true, if_false]
 refine AE (md := mdl) (ms := [true, false]) Am (by simp) ?_
 have hsp : ∀ d ∈ Z4 W T cs ds ls, d.2.1 ≤ 9223372036854775807 := by
  intro d hd
  unfold Z4 at hd
  split at hd
  ·rename_i hsb
   have := cG hd
   obtain ⟨hf, _, _⟩ := Ad h
   obtain ⟨hr, _, _, _⟩ := AR hf
   have l36 := AZ hr
   have := (Qy h hsb).2.1
   omega
  ·simp at hd
 have hx72 : (Z4 W T cs ds ls).length ≤ 72 := by rw [← Yd h]; exact Tc W T cs ds ls ps
 generalize Z4 W T cs ds ls = xs at *
 have htl : (AB ls).take ls.length = AB ls := AD ls
 have hto : (oss ps).take ps.length = oss ps := List.take_of_length_le (by simp [oss])
 simp [Aj]
 refine AA rd ?_
 simp
 refine AA ed ?_
 simp
 refine AF (fun m E H => ∃ (i : Nat) (l : List Int) (p : List (List Int)) (n : Nat), m = xs.length - i ∧ i ≤ xs.length ∧ J8 (kM W T cs ds) ls ps (xs.take i) = (l, p, n) ∧ A0 W T cs ds l p = true ∧
  E = [(0, .lp 0 0 0 0), (7, .ls 3 1 0 xs.length), (26, .ls 3 1 0 xs.length), (27, .v (.int .i64 xs.length)), (28, .v (.int .i64 i)), (126, .lp 0 0 0 0)] ∧
  H = [some (.box [.v (.int .i64 W), .v (.int .i64 T), .ls 1 2 0 cs.length, .ls 1 3 0 ds.length, .ls 1 4 0 l.length, .ls 1 5 0 p.length]), some (.arr 3 (dsA xs)),
    some (.arr 1 (AC cs)), some (.arr 1 (AB ds)), some (.arr 1 (AB l)), some (.arr 1 (oss p))]) xs.length ⟨0, ls, ps, 0, by simp, by omega, by simp [J8], h, by simp, by simp⟩ ?_
 rintro J hJ m E H ⟨i, l, p, n, rfl, hi, hrr, hb, rfl, rfl⟩
 have htl : (AB l).take l.length = AB l := AD l
 have hto : (oss p).take p.length = oss p := List.take_of_length_le (by simp [oss])
 by_cases hlt : i < xs.length
 ·have hd := Nt W T cs ds l p xs[i].1 xs[i].2.1 xs[i].2.2 hb (hsp _ (List.getElem_mem hlt))
  have hb2 := dp xs[i].1 xs[i].2.1 xs[i].2.2 hb
  have hr2 : J8 (kM W T cs ds) ls ps (xs.take (i + 1)) = ((doI W T cs ds l p xs[i].1 xs[i].2.1 xs[i].2.2).2.1, (doI W T cs ds l p xs[i].1 xs[i].2.1 xs[i].2.2).2.2, n + if (doI W T cs ds l p xs[i].1 xs[i].2.1 xs[i].2.2).1 then 1 else 0) := by
   rw [List.take_succ_eq_append_getElem hlt, OC, hrr]
  generalize doI W T cs ds l p xs[i].1 xs[i].2.1 xs[i].2.2 = r at *
  obtain ⟨b, l2, p2⟩ := r
  have htl2 : (AB l2).take l2.length = AB l2 := AD l2
  have hto2 : (oss p2).take p2.length = oss p2 := List.take_of_length_le (by simp [oss])
  simp only at hd hb2 hr2
  have hg := ZA hlt
  simp [DJ, hlt, hg, A8]
  refine AA hd ?_
  simp
  exact ⟨by omega, _, by omega, hJ _ _ _ ⟨i + 1, l2, p2, _, rfl, hlt, hr2, hb2, by simp, by simp⟩⟩
 ·have : i = xs.length := by omega
  subst this
  rw [List.take_length] at hrr
  have e : jG W T cs ds ls ps xs = (l, p, n) := hrr
  rw [e]
  by_cases hx : xs = []
  ·simp [DJ, hx, htl, hto, Xh]
  ·have hx0 : ¬ xs.length = 0 := fun e => hx (List.eq_nil_of_length_eq_zero e)
   simp [DJ, hx, hx0, htl, hto]
theorem cQ (W T : Int) (cs : List Bool) (ds ls : List Int) (ps : List (List Int)) (h : A0 W T cs ds ls ps = true) :
  SoundAt Tryz.prog Ac [NZ W T cs ds ls ps, .v (tx [115, 104, 111, 119])] (.v (tx (UA W T cs ls))) [NZ W T cs ds ls ps, .bot] := by
 obtain ⟨hf, h20, hpf⟩ := Ad h
 obtain ⟨hr, hdg, hy, ho⟩ := AR hf
 have rd := Aw [115, 104, 111, 119] (by decide)
 have lt := Tu W T cs ls hr hy
 rw [WV, CE WV] at rd
 simp only [Ej, A8] at rd
 generalize UA W T cs ls = t at *
 have htl : (AB ls).take ls.length = AB ls := AD ls
 have hto : (oss ps).take ps.length = oss ps := List.take_of_length_le (by simp [oss])
 refine AE (md := mdl) (ms := [true, false]) Am (by simp) ?_
 simp [Aj]
 refine AA rd ?_
 simp
 (repeat' first | omega | apply And.intro) <;>
 ·refine AA lt ?_
  simp [htl, hto]
theorem Ye (W T : Int) (cs : List Bool) (ds ls : List Int) (ps : List (List Int)) (h : A0 W T cs ds ls ps = true) :
  SoundAt Tryz.prog Ac [NZ W T cs ds ls ps, .v (tx [100, 105, 103, 105, 116, 115])] (.v (tx (Sc W T cs ds))) [NZ W T cs ds ls ps, .bot] := by
 obtain ⟨hf, h20, hpf⟩ := Ad h
 obtain ⟨hr, hdg, hy, ho⟩ := AR hf
 obtain ⟨l36, ld, ll⟩ := Dm hf
 have rd := Aw [100, 105, 103, 105, 116, 115] (by decide)
 obtain ⟨w, rfl⟩ : ∃ w : Nat, W = w := ⟨W.toNat, by have := hr; simp only [Az, decide_eq_true_eq] at this; omega⟩
 obtain ⟨t, rfl⟩ : ∃ t : Nat, T = t := ⟨T.toNat, by have := hr; simp only [Az, decide_eq_true_eq] at this; omega⟩
 have pt := Q2 w t cs ds (by omega) (by omega)
 rw [QD, CE QD] at rd
 simp only [Ej, A8] at rd
 have htl : (AB ls).take ls.length = AB ls := AD ls
 have hto : (oss ps).take ps.length = oss ps := List.take_of_length_le (by simp [oss])
 generalize Sc w t cs ds = x at *
 refine AE (md := mdl) (ms := [true, false]) Am (by simp) ?_
 simp [Aj]
 refine AA rd ?_
 simp
 (repeat' first | omega | apply And.intro) <;>
 ·refine AA pt ?_
  simp [htl, hto]
theorem cR (W T : Int) (cs : List Bool) (ds ls : List Int) (ps : List (List Int)) (h : A0 W T cs ds ls ps = true) :
  SoundAt Tryz.prog Ac [NZ W T cs ds ls ps, .v (tx [108, 101, 102, 116])] (.v (tx (QS (Bg cs - 2 * Ie ls)))) [NZ W T cs ds ls ps, .bot] := by
 obtain ⟨hf, h20, hpf⟩ := Ad h
 obtain ⟨hr, hdg, hy, ho⟩ := AR hf
 obtain ⟨l36, ld, ll⟩ := Dm hf
 have rd := Aw [108, 101, 102, 116] (by decide)
 have lf := Rj W T cs ds ls ps (by omega) (by omega)
 have h0 := ZN h
 have h1 := HV cs
 have it := Jj ((Bg cs : Int) - 2 * Ie ls) h0 (by omega)
 rw [WW, CE WW] at rd
 simp only [Ej, A8] at rd
 have htl : (AB ls).take ls.length = AB ls := AD ls
 have hto : (oss ps).take ps.length = oss ps := List.take_of_length_le (by simp [oss])
 refine AE (md := mdl) (ms := [true, false]) Am (by simp) ?_
 simp [Aj]
 refine AA rd ?_
 simp
 refine AA lf ?_
 simp
 refine AA it ?_
 simp [htl, hto]
theorem cS (W T : Int) (cs : List Bool) (ds ls : List Int) (ps : List (List Int)) (h : A0 W T cs ds ls ps = true) :
  SoundAt Tryz.prog Ac [NZ W T cs ds ls ps, .v (tx [112, 97, 115, 116])] (.v (tx (QS (ps.length : Int)))) [NZ W T cs ds ls ps, .bot] := by
 obtain ⟨hf, h20, hpf⟩ := Ad h
 obtain ⟨hr, hdg, hy, ho⟩ := AR hf
 obtain ⟨l36, ld, ll⟩ := Dm hf
 have rd := Aw [112, 97, 115, 116] (by decide)
 have it := Jj (ps.length : Int) (by omega) (by omega)
 rw [WX, CE WX] at rd
 simp only [Ej, A8] at rd
 have htl : (AB ls).take ls.length = AB ls := AD ls
 have hto : (oss ps).take ps.length = oss ps := List.take_of_length_le (by simp [oss])
 refine AE (md := mdl) (ms := [true, false]) Am (by simp) ?_
 simp [Aj]
 refine AA rd ?_
 simp
 refine AA it ?_
 simp [htl, hto]
theorem Yf (W T : Int) (cs : List Bool) (ds ls : List Int) (ps : List (List Int)) (h : A0 W T cs ds ls ps = true) :
  SoundAt Tryz.prog Ac [NZ W T cs ds ls ps, .v (tx [115, 111, 108, 118, 101, 100])] (.v (tx (cg (JZ cs ls)))) [NZ W T cs ds ls ps, .bot] := by
 obtain ⟨hf, h20, hpf⟩ := Ad h
 obtain ⟨hr, hdg, hy, ho⟩ := AR hf
 obtain ⟨l36, ld, ll⟩ := Dm hf
 have rd := Aw [115, 111, 108, 118, 101, 100] (by decide)
 have fu := PH W T cs ls (by omega) ll
 have ye := VG (JZ cs ls)
 rw [QE, CE QE] at rd
 simp only [Ej, A8] at rd
 have htl : (AB ls).take ls.length = AB ls := AD ls
 have hto : (oss ps).take ps.length = oss ps := List.take_of_length_le (by simp [oss])
 refine AE (md := mdl) (ms := [true, false]) Am (by simp) ?_
 simp [Aj]
 refine AA rd ?_
 simp
 (repeat' first | omega | apply And.intro) <;>
 ·refine AA fu ?_
  simp
  refine AA ye ?_
  simp [htl, hto]
theorem cT (W T : Int) (cs : List Bool) (ds ls : List Int) (ps : List (List Int)) (h : A0 W T cs ds ls ps = true) :
  SoundAt Tryz.prog Ac [NZ W T cs ds ls ps, .v (tx [100, 101, 97, 100])] (.v (tx (cg (Ra W T cs ds ls)))) [NZ W T cs ds ls ps, .bot] := by
 obtain ⟨hf, h20, hpf⟩ := Ad h
 obtain ⟨hr, hdg, hy, ho⟩ := AR hf
 obtain ⟨l36, ld, ll⟩ := Dm hf
 have rd := Aw [100, 101, 97, 100] (by decide)
 have fu := YL W T cs ds ls (by omega) (by omega) (by omega)
 have ye := VG (Ra W T cs ds ls)
 rw [WY, CE WY] at rd
 simp only [Ej, A8] at rd
 have htl : (AB ls).take ls.length = AB ls := AD ls
 have hto : (oss ps).take ps.length = oss ps := List.take_of_length_le (by simp [oss])
 refine AE (md := mdl) (ms := [true, false]) Am (by simp) ?_
 simp [Aj]
 refine AA rd ?_
 simp
 (repeat' first | omega | apply And.intro) <;>
 ·refine AA fu ?_
  simp
  refine AA ye ?_
  simp [htl, hto]
theorem cU (W T : Int) (cs : List Bool) (ds ls : List Int) (ps : List (List Int)) (h : A0 W T cs ds ls ps = true) :
  SoundAt Tryz.prog Ac [NZ W T cs ds ls ps, .v (tx [104, 105, 110, 116])] (.v (tx (if Kj W T cs ds ls < 0 then Xh else B8 (0, Kj W T cs ds ls, M7 W T cs ds ls)))) [NZ W T cs ds ls ps, .bot] := by
 obtain ⟨hf, h20, hpf⟩ := Ad h
 obtain ⟨hr, hdg, hy, ho⟩ := AR hf
 obtain ⟨l36, ld, ll⟩ := Dm hf
 have rd := Aw [104, 105, 110, 116] (by decide)
 have hi := WM W T cs ds ls (by omega) (by omega) (by omega)
 have dt := Mi (0, Kj W T cs ds ls, M7 W T cs ds ls)
 simp only [A8] at dt
 rw [WZ, CE WZ] at rd
 simp only [Ej, A8] at rd
 have htl : (AB ls).take ls.length = AB ls := AD ls
 have hto : (oss ps).take ps.length = oss ps := List.take_of_length_le (by simp [oss])
 generalize Kj W T cs ds ls = c at *
 generalize M7 W T cs ds ls = x at *
 refine AE (md := mdl) (ms := [true, false]) Am (by simp) ?_
 simp [Aj]
 refine AA rd ?_
 simp
 (repeat' first | omega | apply And.intro) <;>
 ·refine AA hi ?_
  by_cases hc : c < 0
  ·simp [hc, htl, hto, Xh]
  ·simp [hc]
   refine AA dt ?_
   simp [htl, hto]
theorem R0 (W T : Int) (cs : List Bool) (ds ls : List Int) (ps : List (List Int)) (s : List UInt8) (h : A0 W T cs ds ls ps = true) (hs : s.length < 2 ^ 30) :
  SoundAt Tryz.prog Ac [NZ W T cs ds ls ps, .v (tx s)] (.v (tx (FA W T cs ds ls ps s).2.2)) [NZ W T cs ds (FA W T cs ds ls ps s).1 (FA W T cs ds ls ps s).2.1, .bot] := by
 cases hr : Cf s with
 | true => exact iI W T cs ds ls ps s h hs hr
 | false =>
 by_cases h0 : s = [101, 110, 100]
 ·subst h0; exact d8 W T cs ds ls ps h
 have e : FA W T cs ds ls ps s = (ls, ps, kQ W T cs ds ls ps s) := by simp [FA, hr, h0]
 rw [e]
 simp only [kQ]
 by_cases h1 : s = [115, 104, 111, 119]
 ·subst h1; exact cQ W T cs ds ls ps h
 rw [if_neg h1]
 by_cases h2 : s = [100, 105, 103, 105, 116, 115]
 ·subst h2; exact Ye W T cs ds ls ps h
 rw [if_neg h2]
 by_cases h3 : s = [108, 101, 102, 116]
 ·subst h3; exact cR W T cs ds ls ps h
 rw [if_neg h3]
 by_cases h4 : s = [112, 97, 115, 116]
 ·subst h4; exact cS W T cs ds ls ps h
 rw [if_neg h4]
 by_cases h5 : s = [115, 111, 108, 118, 101, 100]
 ·subst h5; exact Yf W T cs ds ls ps h
 rw [if_neg h5]
 by_cases h6 : s = [100, 101, 97, 100]
 ·subst h6; exact cT W T cs ds ls ps h
 rw [if_neg h6]
 by_cases h7 : s = [104, 105, 110, 116]
 ·subst h7; exact cU W T cs ds ls ps h
 rw [if_neg h7]
 have rd := Aw s hs
 rw [hr, CE hr] at rd
 simp only [Ej, A8] at rd
 have htl : (AB ls).take ls.length = AB ls := AD ls
 have hto : (oss ps).take ps.length = oss ps := List.take_of_length_le (by simp [oss])
 refine AE (md := mdl) (ms := [true, false]) Am (by simp) ?_
 simp [Aj]
 refine AA rd ?_
 simp [h0, h1, h2, h3, h4, h5, h6, h7, htl, hto]
theorem Jk (b : Bool) (s : List UInt8) : SoundAt Tryz.prog Nx [.v (.bool b), .v (tx s)] (.v (tx (if b then s else [110, 111]))) [.bot, .bot] := by
 refine AE (md := mdl) (ms := [false, false]) Uo (by simp) ?_
 cases b <;> simp [Ny]
theorem Ay {W T : Int} {cs : List Bool} {ds ls : List Int} {ps : List (List Int)} (h : A0 W T cs ds ls ps = true) : SoundAt Tryz.prog GR [bkA W T cs ds ls ps] (bkO W T cs ds ls ps) [.bot] := by
 obtain ⟨hf, h20, hpf⟩ := Ad h
 obtain ⟨hr, hdg, hy, ho⟩ := AR hf
 obtain ⟨l36, ld, ll⟩ := Dm hf
 have hnew := Ns W T cs ds (by omega) (by omega)
 have enew : hD W T cs ds = bkO W T cs ds (BO cs) [] := by simp [hD, hr, hdg]
 rw [enew] at hnew
 exact Nm Nn W T cs ds ls (BO cs) ps (by omega) (by omega) (by omega) (by omega) (fun p hp => by have := Dm (hpf p hp); omega) (by simp [BO]; omega) hnew
def Xi (mk : List Int → List (List Int) → AV) (no : AV) (W T : Int) (cs : List Bool) (ds ls : List Int) (ps : List (List Int)) (s : List UInt8) : AV :=
 if A0 W T cs ds ls ps = true then .tup [mk (FA W T cs ds ls ps s).1 (FA W T cs ds ls ps s).2.1, .v (tx (FA W T cs ds ls ps s).2.2)] else .tup [no, .v (tx [])]
theorem Tv (W T : Int) (cs : List Bool) (ds ls : List Int) (ps : List (List Int)) (s : List UInt8) (hc : cs.length ≤ 2 ^ 30) (hd : ds.length ≤ 2 ^ 30) (hl : ls.length ≤ 2 ^ 30) (hb : ps.length ≤ 2 ^ 30) (hp : ∀ p ∈ ps, p.length ≤ 2 ^ 30) (hs : s.length < 2 ^ 30) :
  SoundAt Tryz.prog IY [bkA W T cs ds ls ps, .v (tx s)] (Xi (bkO W T cs ds) (bkO 0 0 [] [] [] []) W T cs ds ls ps s) [.bot, .bot] := by
 have hv := Re W T cs ds ls ps (by omega) (by omega) (by omega) (by omega) (fun p h => by have := hp p h; omega)
 refine AE (md := mdl) (ms := [false, false]) Ts (by simp) ?_
 unfold Xi
 cases h : A0 W T cs ds ls ps with
 | false =>
   rw [h] at hv
   simp [IZ]
   refine AA hv ?_
   simp
 | true =>
   rw [h] at hv
   obtain ⟨hf, h20, hpf⟩ := Ad h
   obtain ⟨l36, ld, ll⟩ := Dm hf
   have hcopy := P9 W T cs ds ls ps (by omega) (by omega) (by omega) (by omega) (fun p hp => by have := Dm (hpf p hp); omega)
   have hln := R0 W T cs ds ls ps s h hs
   generalize FA W T cs ds ls ps s = r at *
   obtain ⟨l2, p2, t⟩ := r
   have htl : (AB l2).take l2.length = AB l2 := AD l2
   have hto : (oss p2).take p2.length = oss p2 := List.take_of_length_le (by simp [oss])
   simp [IZ]
   refine AA hv ?_
   simp
   refine AA hcopy ?_
   simp
   refine AA hln ?_
   simp [htl, hto]
theorem Gw {W T : Int} {cs : List Bool} {ds ls : List Int} {ps : List (List Int)} (h : A0 W T cs ds ls ps = true) : cs.length ≤ 36 ∧ ds.length ≤ 36 ∧ ls.length ≤ 36 ∧ ps.length ≤ 20 ∧ (∀ p ∈ ps, p.length ≤ 40) ∧
  SoundAt Tryz.prog Gs [bkA W T cs ds ls ps] (.v (.bool true)) [.bot] := by
 obtain ⟨hf, h20, hpf⟩ := Ad h
 obtain ⟨l36, ld, ll⟩ := Dm hf
 have hpl : ∀ p ∈ ps, p.length ≤ 40 := fun p hp => by have := Dm (hpf p hp); omega
 have val := CH W T cs ds ls ps (by omega) (by omega) (by omega) (by omega) (fun p hp => by have := hpl p hp; omega)
 rw [h] at val
 exact ⟨l36, by omega, by omega, h20, hpl, val⟩
theorem m8 (W T : Int) (cs : List Bool) (ds ls : List Int) (ps : List (List Int)) (s : List UInt8) (h : A0 W T cs ds ls ps = true) (hs : s.length < 2 ^ 30) (hr : Cf s = true) :
  SoundAt Tryz.prog Ah [bkA W T cs ds ls ps, .v (tx s)] (.tup [bkO W T cs ds (FA W T cs ds ls ps s).1 (FA W T cs ds ls ps s).2.1, .v (tx (FA W T cs ds ls ps s).2.2)]) [.bot, .bot] := by
 obtain ⟨hc, hd, hl, hb, hp, val⟩ := Gw h
 have rd := Av s hs
 have cp := Ay h
 have dd := P7 W T cs ds ls ps (Cg s).1 (Cg s).2.1 (Cg s).2.2 (by omega) (by omega) (by omega) (by omega) hp
 rw [h] at dd
 simp only [if_true, Bool.true_and] at dd
 have wd := Jk (doI W T cs ds ls ps (Cg s).1 (Cg s).2.1 (Cg s).2.2).1 [111, 107]
 refine AE (md := mdl) (ms := [false, false]) Al (by simp) ?_
 rw [hr] at rd
 simp only [FA, hr, if_true]
 simp only [Ej, A8] at rd
 generalize Cg s = d at *
 generalize doI W T cs ds ls ps d.1 d.2.1 d.2.2 = r at *
 obtain ⟨b, l2, p2⟩ := r
 have htl : (AB l2).take l2.length = AB l2 := AD l2
 have hto : (oss p2).take p2.length = oss p2 := List.take_of_length_le (by simp [oss])
 simp [Ai]
 refine AA val ?_
 simp
 refine AA rd ?_
 simp
 refine AA cp ?_
 simp
 refine AA dd ?_
 simp
 (repeat' first | omega | apply And.intro) <;>
 ·refine AA wd ?_
  cases b <;> simp [htl, hto, okT]
theorem kR (W T : Int) (cs : List Bool) (ds ls : List Int) (ps : List (List Int)) (h : A0 W T cs ds ls ps = true) :
  SoundAt Tryz.prog Ah [bkA W T cs ds ls ps, .v (tx [115, 104, 111, 119])] (.tup [bkO W T cs ds ls ps, .v (tx (UA W T cs ls))]) [.bot, .bot] := by
 obtain ⟨hc, hd, hl, hb, hp, val⟩ := Gw h
 obtain ⟨hf, h20, hpf⟩ := Ad h
 obtain ⟨hr, hdg, hy, ho⟩ := AR hf
 have rd := Av [115, 104, 111, 119] (by decide)
 have cp := Ay h
 have lt := Tt W T cs ls hr hy
 rw [WV, CE WV] at rd
 simp only [Ej, A8] at rd
 have htl : (AB ls).take ls.length = AB ls := AD ls
 have hto : (oss ps).take ps.length = oss ps := List.take_of_length_le (by simp [oss])
 generalize UA W T cs ls = x at *
 refine AE (md := mdl) (ms := [false, false]) Al (by simp) ?_
 simp [Ai]
 refine AA val ?_
 simp
 refine AA rd ?_
 simp
 refine AA cp ?_
 simp
 (repeat' first | omega | apply And.intro) <;>
 ·refine AA lt ?_
  simp [htl, hto]
theorem d9 (W T : Int) (cs : List Bool) (ds ls : List Int) (ps : List (List Int)) (h : A0 W T cs ds ls ps = true) :
  SoundAt Tryz.prog Ah [bkA W T cs ds ls ps, .v (tx [100, 105, 103, 105, 116, 115])] (.tup [bkO W T cs ds ls ps, .v (tx (Sc W T cs ds))]) [.bot, .bot] := by
 obtain ⟨hc, hd, hl, hb, hp, val⟩ := Gw h
 obtain ⟨hf, h20, hpf⟩ := Ad h
 obtain ⟨hr, hdg, hy, ho⟩ := AR hf
 have rd := Av [100, 105, 103, 105, 116, 115] (by decide)
 have cp := Ay h
 obtain ⟨w, rfl⟩ : ∃ w : Nat, W = w := ⟨W.toNat, by have := hr; simp only [Az, decide_eq_true_eq] at this; omega⟩
 obtain ⟨t, rfl⟩ : ∃ t : Nat, T = t := ⟨T.toNat, by have := hr; simp only [Az, decide_eq_true_eq] at this; omega⟩
 have pt := Q1 w t cs ds (by omega) (by omega) (by have := hr; simp only [Az, decide_eq_true_eq] at this; omega)
 rw [QD, CE QD] at rd
 simp only [Ej, A8] at rd
 have htl : (AB ls).take ls.length = AB ls := AD ls
 have hto : (oss ps).take ps.length = oss ps := List.take_of_length_le (by simp [oss])
 generalize Sc w t cs ds = x at *
 refine AE (md := mdl) (ms := [false, false]) Al (by simp) ?_
 simp [Ai]
 refine AA val ?_
 simp
 refine AA rd ?_
 simp
 refine AA cp ?_
 simp
 (repeat' first | omega | apply And.intro) <;>
 ·refine AA pt ?_
  simp [htl, hto]
theorem kS (W T : Int) (cs : List Bool) (ds ls : List Int) (ps : List (List Int)) (h : A0 W T cs ds ls ps = true) :
  SoundAt Tryz.prog Ah [bkA W T cs ds ls ps, .v (tx [108, 101, 102, 116])] (.tup [bkO W T cs ds ls ps, .v (tx (QS (Bg cs - 2 * Ie ls)))]) [.bot, .bot] := by
 obtain ⟨hc, hd, hl, hb, hp, val⟩ := Gw h
 obtain ⟨hf, h20, hpf⟩ := Ad h
 obtain ⟨hr, hdg, hy, ho⟩ := AR hf
 have rd := Av [108, 101, 102, 116] (by decide)
 have cp := Ay h
 have lf := Rk W T cs ds ls ps (by omega) (by omega) (by omega) (by omega) (fun p hp1 => by have := hp p hp1; omega)
 simp only [bS, h, if_true] at lf
 have h0 := ZN h
 have h1 := HV cs
 have it := Fg ((Bg cs : Int) - 2 * Ie ls) h0 (by omega)
 rw [WW, CE WW] at rd
 simp only [Ej, A8] at rd
 have htl : (AB ls).take ls.length = AB ls := AD ls
 have hto : (oss ps).take ps.length = oss ps := List.take_of_length_le (by simp [oss])
 refine AE (md := mdl) (ms := [false, false]) Al (by simp) ?_
 simp [Ai]
 refine AA val ?_
 simp
 refine AA rd ?_
 simp
 refine AA cp ?_
 simp
 (repeat' first | omega | apply And.intro) <;>
 ·refine AA lf ?_
  simp
  (repeat' first | omega | apply And.intro) <;>
  ·refine AA it ?_
   simp [htl, hto]
theorem kT (W T : Int) (cs : List Bool) (ds ls : List Int) (ps : List (List Int)) (h : A0 W T cs ds ls ps = true) :
  SoundAt Tryz.prog Ah [bkA W T cs ds ls ps, .v (tx [112, 97, 115, 116])] (.tup [bkO W T cs ds ls ps, .v (tx (QS (ps.length : Int)))]) [.bot, .bot] := by
 obtain ⟨hc, hd, hl, hb, hp, val⟩ := Gw h
 obtain ⟨hf, h20, hpf⟩ := Ad h
 obtain ⟨hr, hdg, hy, ho⟩ := AR hf
 have rd := Av [112, 97, 115, 116] (by decide)
 have cp := Ay h
 have it := Fg (ps.length : Int) (by omega) (by omega)
 rw [WX, CE WX] at rd
 simp only [Ej, A8] at rd
 have htl : (AB ls).take ls.length = AB ls := AD ls
 have hto : (oss ps).take ps.length = oss ps := List.take_of_length_le (by simp [oss])
 refine AE (md := mdl) (ms := [false, false]) Al (by simp) ?_
 simp [Ai]
 refine AA val ?_
 simp
 refine AA rd ?_
 simp
 refine AA cp ?_
 simp
 (repeat' first | omega | apply And.intro) <;>
 ·refine AA it ?_
  simp [htl, hto]
theorem eC (W T : Int) (cs : List Bool) (ds ls : List Int) (ps : List (List Int)) (h : A0 W T cs ds ls ps = true) :
  SoundAt Tryz.prog Ah [bkA W T cs ds ls ps, .v (tx [115, 111, 108, 118, 101, 100])] (.tup [bkO W T cs ds ls ps, .v (tx (cg (JZ cs ls)))]) [.bot, .bot] := by
 obtain ⟨hc, hd, hl, hb, hp, val⟩ := Gw h
 obtain ⟨hf, h20, hpf⟩ := Ad h
 obtain ⟨hr, hdg, hy, ho⟩ := AR hf
 have rd := Av [115, 111, 108, 118, 101, 100] (by decide)
 have cp := Ay h
 have fu := Qf W T cs ds ls ps (by omega) (by omega) (by omega) (by omega) (fun p hp1 => by have := hp p hp1; omega)
 simp only [df, h, Bool.true_and] at fu
 have ye := Jk (JZ cs ls) [121, 101, 115]
 rw [QE, CE QE] at rd
 simp only [Ej, A8] at rd
 have htl : (AB ls).take ls.length = AB ls := AD ls
 have hto : (oss ps).take ps.length = oss ps := List.take_of_length_le (by simp [oss])
 refine AE (md := mdl) (ms := [false, false]) Al (by simp) ?_
 simp [Ai]
 refine AA val ?_
 simp
 refine AA rd ?_
 simp
 refine AA cp ?_
 simp
 (repeat' first | omega | apply And.intro) <;>
 ·refine AA fu ?_
  simp
  (repeat' first | omega | apply And.intro) <;>
  ·refine AA ye ?_
   simp [htl, hto, cg]
set_option maxHeartbeats 4000000 in
theorem kU (W T : Int) (cs : List Bool) (ds ls : List Int) (ps : List (List Int)) (h : A0 W T cs ds ls ps = true) :
  SoundAt Tryz.prog Ah [bkA W T cs ds ls ps, .v (tx [100, 101, 97, 100])] (.tup [bkO W T cs ds ls ps, .v (tx (cg (Ra W T cs ds ls)))]) [.bot, .bot] := by
 obtain ⟨hc, hd, hl, hb, hp, val⟩ := Gw h
 obtain ⟨hf, h20, hpf⟩ := Ad h
 obtain ⟨hr, hdg, hy, ho⟩ := AR hf
 have rd := Av [100, 101, 97, 100] (by decide)
 have cp := Ay h
 have fu := YM W T cs ds ls (by omega) (by omega) (by omega)
 have ye := Jk (Ra W T cs ds ls) [121, 101, 115]
 rw [WY, CE WY] at rd
 simp only [Ej, A8] at rd
 have htl : (AB ls).take ls.length = AB ls := AD ls
 have hto : (oss ps).take ps.length = oss ps := List.take_of_length_le (by simp [oss])
 refine AE (md := mdl) (ms := [false, false]) Al (by simp) ?_
 simp [Ai]
 refine AA val ?_
 simp
 refine AA rd ?_
 simp
 refine AA cp ?_
 simp
 (repeat' first | omega | apply And.intro) <;>
 ·refine AA fu ?_
  simp
  (repeat' first | omega | apply And.intro) <;>
  ·refine AA ye ?_
   simp [htl, hto, cg]
set_option maxHeartbeats 4000000 in
theorem kV (W T : Int) (cs : List Bool) (ds ls : List Int) (ps : List (List Int)) (h : A0 W T cs ds ls ps = true) :
  SoundAt Tryz.prog Ah [bkA W T cs ds ls ps, .v (tx [104, 105, 110, 116])] (.tup [bkO W T cs ds ls ps, .v (tx (if Kj W T cs ds ls < 0 then Xh else B8 (0, Kj W T cs ds ls, M7 W T cs ds ls)))]) [.bot, .bot] := by
 obtain ⟨hc, hd, hl, hb, hp, val⟩ := Gw h
 obtain ⟨hf, h20, hpf⟩ := Ad h
 obtain ⟨hr, hdg, hy, ho⟩ := AR hf
 have rd := Av [104, 105, 110, 116] (by decide)
 have cp := Ay h
 have hi := WN W T cs ds ls (by omega) (by omega) (by omega)
 have dt := Mh (0, Kj W T cs ds ls, M7 W T cs ds ls)
 simp only [A8] at dt
 rw [WZ, CE WZ] at rd
 simp only [Ej, A8] at rd
 have htl : (AB ls).take ls.length = AB ls := AD ls
 have hto : (oss ps).take ps.length = oss ps := List.take_of_length_le (by simp [oss])
 generalize Kj W T cs ds ls = c at *
 generalize M7 W T cs ds ls = x at *
 refine AE (md := mdl) (ms := [false, false]) Al (by simp) ?_
 simp [Ai]
 refine AA val ?_
 simp
 refine AA rd ?_
 simp
 refine AA cp ?_
 simp
 (repeat' first | omega | apply And.intro) <;>
 ·refine AA hi ?_
  by_cases hc : c < 0
  ·simp [hc, htl, hto, Xh]
  ·simp [hc]
   (repeat' first | omega | apply And.intro) <;>
   ·refine AA dt ?_
    simp [htl, hto]
set_option maxHeartbeats 4000000 in
theorem mb (W T : Int) (cs : List Bool) (ds ls : List Int) (ps : List (List Int)) (h : A0 W T cs ds ls ps = true) :
  SoundAt Tryz.prog Ah [bkA W T cs ds ls ps, .v (tx [101, 110, 100])] (.tup [bkO W T cs ds (FA W T cs ds ls ps [101, 110, 100]).1 (FA W T cs ds ls ps [101, 110, 100]).2.1, .v (tx (FA W T cs ds ls ps [101, 110, 100]).2.2)]) [.bot, .bot] := by
 obtain ⟨hc, hd, hl, hb, hp, val⟩ := Gw h
 have rd := Av [101, 110, 100] (by decide)
 have cp := Ay h
 have ed := Ta W T cs ds ls ps (by omega) (by omega) (by omega) (by omega) (fun p hp1 => by have := hp p hp1; omega)
 rw [Yd h] at ed
 have hx72 : (Z4 W T cs ds ls).length ≤ 72 := by rw [← Yd h]; exact Tc W T cs ds ls ps
 rw [VH, CE VH] at rd
 simp only [Ej, A8] at rd
 simp only [FA, VH, if_true, Bool.false_eq_true, if_false]
 refine AE (md := mdl) (ms := [false, false]) Al (by simp) ?_
 generalize Z4 W T cs ds ls = xs at *
 simp [Ai]
 refine AA val ?_
 simp
 refine AA rd ?_
 simp
 refine AA cp ?_
 simp
 refine AA ed ?_
 simp
 refine AF (fun m E H => ∃ (i : Nat) (l : List Int) (p : List (List Int)) (n : Nat), m = xs.length - i ∧ i ≤ xs.length ∧ J8 (kM W T cs ds) ls ps (xs.take i) = (l, p, n) ∧ A0 W T cs ds l p = true ∧
  E = [(4, .lp 0 0 0 0), (8, .lp 0 1 0 0), (11, .ls 3 2 0 xs.length), (12, .v (.int .i64 i))] ∧
  H = [some (.box [.v (.int .i64 0), .v (.int .i64 0), .os 1 [], .os 1 [], .os 1 [], .os 1 []]), some (.box [.v (.int .i64 W), .v (.int .i64 T), .ls 1 3 0 cs.length, .ls 1 4 0 ds.length, .ls 1 5 0 l.length, .ls 1 6 0 p.length]), some (.arr 3 (dsA xs)),
    some (.arr 1 (AC cs)), some (.arr 1 (AB ds)), some (.arr 1 (AB l)), some (.arr 1 (oss p))]) xs.length ⟨0, ls, ps, 0, by simp, by omega, by simp [J8], h, by simp, by simp⟩ ?_
 rintro J hJ m E H ⟨i, l, p, n, rfl, hi, hrr, hbk, rfl, rfl⟩
 have htl : (AB l).take l.length = AB l := AD l
 have hto : (oss p).take p.length = oss p := List.take_of_length_le (by simp [oss])
 by_cases hlt : i < xs.length
 ·obtain ⟨hc2, hd2, hl2, hb2, hp2, _⟩ := Gw hbk
  have hdo := P7 W T cs ds l p xs[i].1 xs[i].2.1 xs[i].2.2 (by omega) (by omega) (by omega) (by omega) hp2
  rw [hbk] at hdo
  simp only [if_true, Bool.true_and] at hdo
  have hbk2 := dp xs[i].1 xs[i].2.1 xs[i].2.2 hbk
  have hr2 : J8 (kM W T cs ds) ls ps (xs.take (i + 1)) = ((doI W T cs ds l p xs[i].1 xs[i].2.1 xs[i].2.2).2.1, (doI W T cs ds l p xs[i].1 xs[i].2.1 xs[i].2.2).2.2, n + if (doI W T cs ds l p xs[i].1 xs[i].2.1 xs[i].2.2).1 then 1 else 0) := by
   rw [List.take_succ_eq_append_getElem hlt, OC, hrr]
  generalize doI W T cs ds l p xs[i].1 xs[i].2.1 xs[i].2.2 = r at *
  obtain ⟨b, l2, p2⟩ := r
  have htl2 : (AB l2).take l2.length = AB l2 := AD l2
  have hto2 : (oss p2).take p2.length = oss p2 := List.take_of_length_le (by simp [oss])
  simp only at hdo hbk2 hr2
  have hg := ZA hlt
  simp [De, hlt, hg, A8]
  (repeat' first | omega | apply And.intro) <;>
  ·refine AA hdo ?_
   simp
   exact ⟨by omega, _, by omega, hJ _ _ _ ⟨i + 1, l2, p2, _, rfl, hlt, hr2, hbk2, by simp, by simp⟩⟩
 ·have : i = xs.length := by omega
  subst this
  rw [List.take_length] at hrr
  have e : jG W T cs ds ls ps xs = (l, p, n) := hrr
  rw [e]
  by_cases hx : xs = []
  ·simp [De, hx, htl, hto, Xh]
  ·have hx0 : ¬ xs.length = 0 := fun e => hx (List.eq_nil_of_length_eq_zero e)
   simp [De, hx, hx0, htl, hto]
set_option maxHeartbeats 4000000 in
theorem Tw (W T : Int) (cs : List Bool) (ds ls : List Int) (ps : List (List Int)) (s : List UInt8) (hc : cs.length ≤ 2 ^ 30) (hd : ds.length ≤ 2 ^ 30) (hl : ls.length ≤ 2 ^ 30) (hb : ps.length ≤ 2 ^ 30) (hp : ∀ p ∈ ps, p.length ≤ 2 ^ 30) (hs : s.length < 2 ^ 30) :
  SoundAt Tryz.prog Ah [bkA W T cs ds ls ps, .v (tx s)] (Xi (bkO W T cs ds) (bkO 0 0 [] [] [] []) W T cs ds ls ps s) [.bot, .bot] := by
 unfold Xi
 cases h : A0 W T cs ds ls ps with
 | false =>
   have hv := CH W T cs ds ls ps (by omega) (by omega) (by omega) (by omega) (fun p h => by have := hp p h; omega)
   rw [h] at hv
   refine AE (md := mdl) (ms := [false, false]) Al (by simp) ?_
   simp [Ai]
   refine AA hv ?_
   simp
 | true =>
 rw [if_pos rfl]
 cases hr : Cf s with
 | true => exact m8 W T cs ds ls ps s h hs hr
 | false =>
 by_cases h0 : s = [101, 110, 100]
 ·subst h0; exact mb W T cs ds ls ps h
 have e : FA W T cs ds ls ps s = (ls, ps, kQ W T cs ds ls ps s) := by simp [FA, hr, h0]
 rw [e]
 simp only [kQ]
 by_cases h1 : s = [115, 104, 111, 119]
 ·subst h1; exact kR W T cs ds ls ps h
 rw [if_neg h1]
 by_cases h2 : s = [100, 105, 103, 105, 116, 115]
 ·subst h2; exact d9 W T cs ds ls ps h
 rw [if_neg h2]
 by_cases h3 : s = [108, 101, 102, 116]
 ·subst h3; exact kS W T cs ds ls ps h
 rw [if_neg h3]
 by_cases h4 : s = [112, 97, 115, 116]
 ·subst h4; exact kT W T cs ds ls ps h
 rw [if_neg h4]
 by_cases h5 : s = [115, 111, 108, 118, 101, 100]
 ·subst h5; exact eC W T cs ds ls ps h
 rw [if_neg h5]
 by_cases h6 : s = [100, 101, 97, 100]
 ·subst h6; exact kU W T cs ds ls ps h
 rw [if_neg h6]
 by_cases h7 : s = [104, 105, 110, 116]
 ·subst h7; exact kV W T cs ds ls ps h
 rw [if_neg h7]
 obtain ⟨_, _, _, _, _, val⟩ := Gw h
 have rd := Av s hs
 have cp := Ay h
 rw [hr, CE hr] at rd
 simp only [Ej, A8] at rd
 have htl : (AB ls).take ls.length = AB ls := AD ls
 have hto : (oss ps).take ps.length = oss ps := List.take_of_length_le (by simp [oss])
 refine AE (md := mdl) (ms := [false, false]) Al (by simp) ?_
 simp [Ai]
 refine AA val ?_
 simp
 refine AA rd ?_
 simp
 refine AA cp ?_
 simp [h0, h1, h2, h3, h4, h5, h6, h7, htl, hto]
theorem Xj (n : Nat) : ∀ ps : List (List Int), (∀ p ∈ ps, p.length ≤ n) → ED ps ≤ ps.length * n
 | [], _ => by simp [ED]
 | p :: ps, h => by
   have h1 := h p (by simp)
   have h2 := Xj n ps fun q hq => h q (by simp [hq])
   simp only [ED, List.map_cons, List.sum_cons, List.length_cons] at *
   rw [Nat.add_mul]
   omega
set_option maxHeartbeats 4000000 in
theorem KU (W T : Int) (cs : List Bool) (ds ls : List Int) (ps : List (List Int)) (s : List UInt8) (W2 T2 : Int) (cs2 : List Bool) (ds2 ls2 : List Int) (ps2 : List (List Int)) (a : List UInt8) (hc : cs.length < 2 ^ 21) (hd : ds.length < 2 ^ 21) (hl : ls.length < 2 ^ 21) (hs : ED ps < 2 ^ 50) (hb : ps.length < 2 ^ 40) (hp : ∀ p ∈ ps, p.length < 2 ^ 40)
  (hc2 : cs2.length ≤ 40) (hd2 : ds2.length ≤ 40) (hl2 : ls2.length ≤ 40) (hb2 : ps2.length ≤ 40) (hp2 : ∀ p ∈ ps2, p.length ≤ 40) (hs2 : ED ps2 < 2 ^ 50) (h3 : ¬ (1048576 : Int) < db cs ds ls ps) (h4 : ¬ (1048576 : Int) < (s.length : Int))
  (sp : SoundAt Tryz.prog Ah [bkA W T cs ds ls ps, .v (tx s)] (.tup [bkO W2 T2 cs2 ds2 ls2 ps2, .v (tx a)]) [.bot, .bot])
  (im : SoundAt Tryz.prog IY [bkA W T cs ds ls ps, .v (tx s)] (.tup [bkO W2 T2 cs2 ds2 ls2 ps2, .v (tx a)]) [.bot, .bot]) :
  SoundAt Tryz.prog DV [bkA W T cs ds ls ps, .v (tx s)] (.v (.bool true)) [.bot, .bot] := by
 have hp2' : ∀ p ∈ ps2, p.length < 2 ^ 40 := fun p h => by have := hp2 p h; omega
 have tob := WA W T cs ds ls ps (by omega) (by omega) (by omega) (by omega) hp
 have eqb := Pd W T cs ds ls ps (by omega) (by omega) (by omega) (by omega) hp
 have eqb2 := Pd W2 T2 cs2 ds2 ls2 ps2 (by omega) (by omega) (by omega) (by omega) hp2'
 have mk := MY W T cs ds ls ps 1 (by omega) (by omega) hc hd hl hs hb hp
 have mk2 := MY W2 T2 cs2 ds2 ls2 ps2 1 (by omega) (by omega) (by omega) (by omega) (by omega) hs2 (by omega) hp2'
 have held := TW W2 T2 cs2 ds2 ls2 ps2 1 (by omega) (by omega) (by omega) (by omega) (by omega) hs2 (by omega) hp2'
 have hk : ¬ fJ 1 cs ds ls ps < 0 := by unfold fJ; omega
 have hk2 : ¬ fJ 1 cs2 ds2 ls2 ps2 < 0 := by unfold fJ; omega
 have fin : awp Tryz.prog md3 Ci (Fin [RV.t 4] 104 2 [false, false] (.v (.bool true)) [.bot, .bot])
   [(1, .v (tx s)), (2, .lp 0 0 0 0), (6, .lp 0 1 0 0), (7, .v (tx a)), (8, .lp 0 2 0 0), (9, .lp 0 3 0 0), (10, .v (tx a))]
   [some (.box [.v (.int .i64 W), .v (.int .i64 T), .sl 1 1 (AC cs), .sl 1 1 (AB ds), .sl 1 1 (AB ls), .sl 1 1 (sls 1 ps)]), some (.box (hG 4 W2 T2 cs2 ds2 ls2 ps2)), some (.box (hG 8 W T cs ds ls ps)), some (.box (hG 12 W2 T2 cs2 ds2 ls2 ps2)),
    some (.arr 1 (AC cs2)), some (.arr 1 (AB ds2)), some (.arr 1 (AB ls2)), some (.arr 1 (oss ps2)), some (.arr 1 (AC cs)), some (.arr 1 (AB ds)), some (.arr 1 (AB ls)), some (.arr 1 (oss ps)), some (.arr 1 (AC cs2)), some (.arr 1 (AB ds2)), some (.arr 1 (AB ls2)), some (.arr 1 (oss ps2))] := by
  simp [Ci]
  refine AA mk ?_
  simp [hk]
  refine AA eqb2 ?_
  simp
  refine AA mk2 ?_
  simp
  refine AA held ?_
  simp [hk2]
  refine AA tob ?_
  simp
  refine AA im ?_
  simp
  refine AA eqb2 ?_
  simp
  refine AA held ?_
  simp [hk2]
 simp only [hG] at fin
 refine AE (md := md3) (ms := [false, false]) DW (by simp) ?_
 simp [CD, h4]
 refine AA (Pc W T cs ds ls ps 1048576 (by omega) (by omega) (by omega) (by omega) (by omega) (by omega) (fun p h => by have := hp p h; omega)) ?_
 have hn : ¬ bM 1048576 (db cs ds ls ps) < 0 := by unfold bM; split <;> omega
 simp [hn]
 refine AA tob ?_
 simp
 refine AA sp ?_
 simp
 refine AA tob ?_
 simp
 refine AA im ?_
 simp
 refine AA eqb2 ?_
 simp
 (repeat' first | omega | apply And.intro) <;>
 ·refine AA tob ?_
  simp
  refine AA eqb ?_
  simp
  exact fin
theorem cV {W T : Int} {cs : List Bool} {ds ls : List Int} {ps : List (List Int)} (h : A0 W T cs ds ls ps = true) : cs.length ≤ 40 ∧ ds.length ≤ 40 ∧ ls.length ≤ 40 ∧ ps.length ≤ 40 ∧ (∀ p ∈ ps, p.length ≤ 40) ∧ ED ps < 2 ^ 50 := by
 obtain ⟨hc, hd, hl, hb, hp, _⟩ := Gw h
 have := Xj 40 ps hp
 exact ⟨by omega, by omega, by omega, by omega, hp, by omega⟩
theorem Q4 (W T : Int) (cs : List Bool) (ds ls : List Int) (ps : List (List Int)) (s : List UInt8) (hc : cs.length ≤ 9223372036854775807) (hd : ds.length ≤ 9223372036854775807) (hl : ls.length ≤ 9223372036854775807) (hb : ps.length ≤ 9223372036854775807) (hp : ∀ p ∈ ps, p.length ≤ 9223372036854775807) (hs : s.length ≤ 9223372036854775807) :
  SoundAt Tryz.prog DV [bkA W T cs ds ls ps, .v (tx s)] (.v (.bool true)) [.bot, .bot] := by
 by_cases h4 : (1048576 : Int) < (s.length : Int)
 ·refine AE (md := md3) (ms := [false, false]) DW (by simp) ?_
  simp [CD, h4]
 by_cases h3 : (1048576 : Int) < db cs ds ls ps
 ·refine AE (md := md3) (ms := [false, false]) DW (by simp) ?_
  simp [CD, h4]
  refine AA (Pc W T cs ds ls ps 1048576 (by omega) (by omega) hc hd hl hb hp) ?_
  simp [bM, h3]
 obtain ⟨c1, c2, c3, c4, c5⟩ := kI (cs := cs) (ds := ds) (ls := ls) (ps := ps) (n := 1048576) (by omega)
 have c5' : ∀ p ∈ ps, p.length < 2 ^ 40 := fun p hp => by have := c5 p hp; omega
 have c5'' : ∀ p ∈ ps, p.length ≤ 2 ^ 30 := fun p hp => by have := c5 p hp; omega
 have hsum : ED ps < 2 ^ 50 := by
  have : db cs ds ls ps ≤ 1048576 := by omega
  unfold db at this; omega
 have sp := Tw W T cs ds ls ps s (by omega) (by omega) (by omega) (by omega) c5'' (by omega)
 have im := Tv W T cs ds ls ps s (by omega) (by omega) (by omega) (by omega) c5'' (by omega)
 unfold Xi at sp im
 cases ok : A0 W T cs ds ls ps with
 | false =>
   rw [ok] at sp im
   exact KU W T cs ds ls ps s 0 0 [] [] [] [] [] (by omega) (by omega) (by omega) hsum (by omega) c5' (by simp) (by simp) (by simp) (by simp) (by simp) (by simp [ED]) h3 h4 sp im
 | true =>
   rw [ok] at sp im
   obtain ⟨b1, b2, b3, b4, b5, b6⟩ := cV (iH s ok)
   exact KU W T cs ds ls ps s W T cs ds _ _ _ (by omega) (by omega) (by omega) hsum (by omega) c5' b1 b2 b3 b4 b5 b6 h3 h4 sp im
end Go.Proofs.Dev
