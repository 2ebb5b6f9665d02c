/- Contracts of the functions of the program over slots and rows, each proved against the program itself; no condition beyond those that each theorem names. -/
import Derived.Test.YtfkmfobbgoflgaaGreatDoorAV
import Derived.Test.YtfkmfobbgoflgaaGreatDoorAR
import Derived.Test.YtfkmfobbgoflgaaGreatDoorAN
import Derived.Test.YtfkmfobbgoflgaaGreatDoorAI
import Derived.Test.YtfkmfobbgoflgaaGreatDoorProg
import Derived.Test.YtfkmfobbgoflgaaGreatDoorAO
import Derived.Test.YtfkmfobbgoflgaaGreatDoorAQ
import Derived.Test.YtfkmfobbgoflgaaGreatDoorAH
set_option linter.unusedSimpArgs false
set_option linter.unusedVariables false
set_option maxRecDepth 100000
namespace Go.Proofs.Dev
abbrev mK (W T : Int) (cs : List Bool) (ds : List Int) : List Int → List (List Int) → fi → Bool × List Int × List (List Int) := fun l p d => doI W T cs ds l p d.1 d.2.1 d.2.2
def kh (W T : Int) (cs : List Bool) (ds ls : List Int) (ps : List (List Int)) (xs : List fi) : List Int × List (List Int) × Nat := Ki (mK W T cs ds) ls ps xs
theorem g9 {W T : Int} {cs : List Bool} {ds : List Int} : ∀ (xs : List fi) (ls : List Int) (ps : List (List Int)), Am W T cs ds ls ps = true → Am W T cs ds (kh W T cs ds ls ps xs).1 (kh W T cs ds ls ps xs).2.1 = true
 | [], ls, ps, h => h
 | x :: xs, ls, ps, h => by
   have := g9 xs _ _ (fw x.1 x.2.1 x.2.2 h)
   exact this
def NK (ls ws : List Int) (k : Nat) : List (Int × Int × Int) := if (ati ls k = 1 ∨ ati ls k = 2) ∧ ati ws k ≠ ati ls k then [(1, (k : Int), 0)] else []
def XZ (ls ws : List Int) (k : Nat) : List (Int × Int × Int) := if (ati ws k = 1 ∨ ati ws k = 2) ∧ ati ws k ≠ ati ls k then [(0, (k : Int), ati ws k)] else []
def BR (ls ws : List Int) (n : Nat) : List (Int × Int × Int) := (List.range n).flatMap (NK ls ws)
def DX (ls ws : List Int) (n : Nat) : List (Int × Int × Int) := (List.range n).flatMap (XZ ls ws)
theorem NL (ls ws : List Int) (n : Nat) : BR ls ws (n + 1) = BR ls ws n ++ NK ls ws n := by simp [BR, List.range_succ]
theorem PH (ls ws : List Int) (n : Nat) : DX ls ws (n + 1) = DX ls ws n ++ XZ ls ws n := by simp [DX, List.range_succ]
theorem Gr (ls ws : List Int) : ∀ n, (BR ls ws n).length ≤ n
 | 0 => by simp [BR]
 | n + 1 => by
   have := Gr ls ws n
   rw [NL, List.length_append]
   have : (NK ls ws n).length ≤ 1 := by unfold NK; split <;> simp
   omega
theorem Hm (ls ws : List Int) : ∀ n, (DX ls ws n).length ≤ n
 | 0 => by simp [DX]
 | n + 1 => by
   have := Hm ls ws n
   rw [PH, List.length_append]
   have : (XZ ls ws n).length ≤ 1 := by unfold XZ; split <;> simp
   omega
def dn (ls ws : List Int) : List (Int × Int × Int) := BR ls ws ws.length ++ DX ls ws ws.length
def Vo (W T : Int) (cs : List Bool) : List Int := if A0 W T cs then BO cs else []
def mL (W T : Int) (cs : List Bool) (ds ls : List Int) (ps : List (List Int)) : List (Int × Int × Int) :=
 if (Am W T cs ds ls ps && bW W T cs ds (Vo W T cs)) = true then dn ls (Xj W T cs ds (Vo W T cs)) else []
theorem Ud (W T : Int) (cs : List Bool) (ds ls : List Int) (ps : List (List Int)) (ws : List Int) (sb : Bool) (hc : cs.length < 2 ^ 40) (hd : ds.length < 2 ^ 40) (hl : ls.length < 2 ^ 40) (hb : ps.length < 2 ^ 40) (hp : ∀ p ∈ ps, p.length < 2 ^ 40)
  (hws : Am W T cs ds ls ps = true → sb = true → ls.length = ws.length ∧ ws.length ≤ 36) :
  awp Tryz.prog md3 Dq (Fin [RV.t 2] 105 1 [false] (AV.os 3 (dsA (if (Am W T cs ds ls ps && sb) = true then dn ls ws else []))) [AV.bot])
   [(1, .lp 0 0 0 0), (3, .ls 3 1 0 0), (4, .sl 0 1 (AB ws)), (5, .v (.bool sb))]
   [some (.box [.v (.int .i64 W), .v (.int .i64 T), .sl 1 1 (AC cs), .sl 1 1 (AB ds), .sl 1 1 (AB ls), .sl 1 1 (sls 1 ps)]), some (.arr 3 [])] := by
 cases sb with
 | false => simp [Dq]
 | true =>
 simp [Dq]
 refine AA (Bm W T cs ds ls ps hc hd hl hb hp) ?_
 cases hbk : Am W T cs ds ls ps with
 | false => simp
 | true =>
 obtain ⟨e1, e2⟩ := hws hbk rfl
 simp
 refine AF (fun m E H => ∃ i : Nat, m = ws.length - i ∧ i ≤ ws.length ∧ H = [some (.box [.v (.int .i64 W), .v (.int .i64 T), .sl 1 1 (AC cs), .sl 1 1 (AB ds), .sl 1 1 (AB ls), .sl 1 1 (sls 1 ps)]), some (.arr 3 (dsA (BR ls ws i)))] ∧
  E = [(1, .lp 0 0 0 0), (3, .ls 3 1 0 (BR ls ws i).length), (4, .sl 0 1 (AB ws)), (6, .v (.int .i64 i))]) ws.length ⟨0, by simp [BR]⟩ ?_
 rintro J hJ m E H ⟨i, rfl, hi, rfl, rfl⟩
 have hlen := Gr ls ws i
 have hsuc := NL ls ws i
 by_cases h : i < ws.length
 ·have h2 : i < ls.length := by omega
  have nx1 : NK ls ws i = [] → C6 J (ws.length - i) [(1, .lp 0 0 0 0), (3, .ls 3 1 0 (BR ls ws i).length), (4, .sl 0 1 (AB ws)), (6, .v (.int .i64 (i + 1)))]
    [some (.box [.v (.int .i64 W), .v (.int .i64 T), .sl 1 1 (AC cs), .sl 1 1 (AB ds), .sl 1 1 (AB ls), .sl 1 1 (sls 1 ps)]), some (.arr 3 (dsA (BR ls ws i)))] :=
   fun e => ⟨_, by omega, hJ _ _ _ ⟨i + 1, rfl, h, by rw [hsuc, e, List.append_nil], by rw [hsuc, e, List.append_nil]; rfl⟩⟩
  have nx2 : NK ls ws i = [(1, (i : Int), 0)] → C6 J (ws.length - i) [(1, .lp 0 0 0 0), (3, .ls 3 1 0 ((BR ls ws i).length + 1)), (4, .sl 0 1 (AB ws)), (6, .v (.int .i64 (i + 1)))]
    [some (.box [.v (.int .i64 W), .v (.int .i64 T), .sl 1 1 (AC cs), .sl 1 1 (AB ds), .sl 1 1 (AB ls), .sl 1 1 (sls 1 ps)]), some (.arr 3 (dsA (BR ls ws i) ++ [.agg [.v (.int .i64 1), .v (.int .i64 i), .v (.int .i64 0)]]))] :=
   fun e => ⟨_, by omega, hJ _ _ _ ⟨i + 1, rfl, h, by rw [hsuc, e, Nm]; rfl, by rw [hsuc, e, List.length_append]; rfl⟩⟩
  have hio : i < 36 := by omega
  by_cases hw1 : ati ls i = 1
  ·by_cases hw3 : ati ws i = 1
   ·have nx := nx1 (by simp [NK, hw1, hw3])
    simp [BJ, h, h2, hw1, hw3]
    exact ⟨by omega, nx⟩
   ·have nx := nx2 (by simp [NK, hw1, hw3])
    simp [BJ, h, h2, hw1, hw3]
    exact ⟨by omega, by omega, nx⟩
  ·by_cases hw2 : ati ls i = 2
   ·by_cases hw3 : ati ws i = 2
    ·have nx := nx1 (by simp [NK, hw2, hw3])
     simp [BJ, h, h2, hw2, hw3]
     exact ⟨by omega, nx⟩
    ·have nx := nx2 (by simp [NK, hw2, hw3])
     simp [BJ, h, h2, hw2, hw3]
     exact ⟨by omega, by omega, nx⟩
   ·have nx := nx1 (by simp [NK, hw1, hw2])
    simp [BJ, h, h2, hw1, hw2]
    exact ⟨by omega, nx⟩
 ·have : i = ws.length := by omega
  subst this
  simp [BJ]
  clear hJ J
  have hL : (BR ls ws ws.length).length ≤ 36 := by omega
  have hE : dn ls ws = BR ls ws ws.length ++ DX ls ws ws.length := rfl
  rw [hE]
  generalize BR ls ws ws.length = L at *
  refine AF (fun m E H => ∃ i : Nat, m = ws.length - i ∧ i ≤ ws.length ∧ H = [some (.box [.v (.int .i64 W), .v (.int .i64 T), .sl 1 1 (AC cs), .sl 1 1 (AB ds), .sl 1 1 (AB ls), .sl 1 1 (sls 1 ps)]), some (.arr 3 (dsA (L ++ DX ls ws i)))] ∧
   E = [(1, .lp 0 0 0 0), (3, .ls 3 1 0 (L ++ DX ls ws i).length), (4, .sl 0 1 (AB ws)), (7, .v (.int .i64 i))]) ws.length ⟨0, by simp [DX]⟩ ?_
  rintro J hJ m E H ⟨i, rfl, hi, rfl, rfl⟩
  have hlen : (L ++ DX ls ws i).length ≤ 36 + i := by
   have := Hm ls ws i
   rw [List.length_append]; omega
  have hsuc : L ++ DX ls ws (i + 1) = (L ++ DX ls ws i) ++ XZ ls ws i := by rw [PH, List.append_assoc]
  by_cases h : i < ws.length
  case neg =>
   have : i = ws.length := by omega
   subst this
   simp only [BK]
   generalize L ++ DX ls ws ws.length = M at *
   simp
   exact List.take_of_length_le (by simp)
  have h2 : i < ls.length := by omega
  generalize L ++ DX ls ws i = M at *
  have nx1 : XZ ls ws i = [] → C6 J (ws.length - i) [(1, .lp 0 0 0 0), (3, .ls 3 1 0 M.length), (4, .sl 0 1 (AB ws)), (7, .v (.int .i64 (i + 1)))]
    [some (.box [.v (.int .i64 W), .v (.int .i64 T), .sl 1 1 (AC cs), .sl 1 1 (AB ds), .sl 1 1 (AB ls), .sl 1 1 (sls 1 ps)]), some (.arr 3 (dsA (M)))] :=
   fun e => ⟨_, by omega, hJ _ _ _ ⟨i + 1, rfl, h, by rw [hsuc, e, List.append_nil], by rw [hsuc, e, List.append_nil]; rfl⟩⟩
  have nx2 : XZ ls ws i = [(0, (i : Int), ati ws i)] → C6 J (ws.length - i) [(1, .lp 0 0 0 0), (3, .ls 3 1 0 (M.length + 1)), (4, .sl 0 1 (AB ws)), (7, .v (.int .i64 (i + 1)))]
    [some (.box [.v (.int .i64 W), .v (.int .i64 T), .sl 1 1 (AC cs), .sl 1 1 (AB ds), .sl 1 1 (AB ls), .sl 1 1 (sls 1 ps)]), some (.arr 3 (dsA (M) ++ [.agg [.v (.int .i64 0), .v (.int .i64 i), .v (.int .i64 (ati ws i))]]))] :=
   fun e => ⟨_, by omega, hJ _ _ _ ⟨i + 1, rfl, h, by rw [hsuc, e, Nm]; rfl, by rw [hsuc, e, List.length_append]; rfl⟩⟩
  have hio : i < 36 := by omega
  by_cases hw1 : ati ws i = 1
  ·by_cases hw3 : ati ls i = 1
   ·have nx := nx1 (by simp [XZ, hw1, hw3])
    simp [BK, h, h2, hw1, hw3]
    exact ⟨by omega, nx⟩
   ·have hw3' : ¬ (1 : Int) = ati ls i := fun e => hw3 e.symm
    have nx := nx2 (by simp [XZ, hw1, hw3'])
    rw [hw1] at nx
    simp [BK, h, h2, hw1, hw3, hw3']
    exact ⟨by omega, by omega, nx⟩
  ·by_cases hw2 : ati ws i = 2
   ·by_cases hw3 : ati ls i = 2
    ·have nx := nx1 (by simp [XZ, hw2, hw3])
     simp [BK, h, h2, hw2, hw3]
     exact ⟨by omega, nx⟩
    ·have hw3' : ¬ (2 : Int) = ati ls i := fun e => hw3 e.symm
     have nx := nx2 (by simp [XZ, hw2, hw3'])
     rw [hw2] at nx
     simp [BK, h, h2, hw2, hw3, hw3']
     exact ⟨by omega, by omega, nx⟩
   ·have nx := nx1 (by simp [XZ, hw1, hw2])
    simp [BK, h, h2, hw1, hw2]
    exact ⟨by omega, nx⟩
theorem Ru {W T : Int} {cs : List Bool} {ds ls : List Int} {ps : List (List Int)} {b : List Int} (h1 : Am W T cs ds ls ps = true) (h2 : bW W T cs ds b = true) :
  ls.length = (Xj W T cs ds b).length ∧ (Xj W T cs ds b).length ≤ 36 ∧ ds.length = cs.length := by
 have hok := Mg (Cq (Nn h1))
 unfold bW at h2
 unfold Xj
 cases hf : BL W T cs ds b with
 | none => rw [hf] at h2; cases h2
 | some x =>
   have e := (LK hf).2
   have := AZ hok.1
   simp only [Option.getD_some]
   exact ⟨by omega, by omega, hok.2.1⟩
theorem Ue (W T : Int) (cs : List Bool) (ds ls : List Int) (ps : List (List Int)) (hc : cs.length < 2 ^ 40) (hd : ds.length < 2 ^ 40) (hl : ls.length < 2 ^ 40) (hb : ps.length < 2 ^ 40) (hp : ∀ p ∈ ps, p.length < 2 ^ 40) :
  SoundAt Tryz.prog Mv [bkA W T cs ds ls ps] (.os 3 (dsA (mL W T cs ds ls ps))) [.bot] := by
 have tl := Ud W T cs ds ls ps (Xj W T cs ds (Vo W T cs)) (bW W T cs ds (Vo W T cs)) hc hd hl hb hp (fun h1 h2 => ⟨(Ru h1 h2).1, (Ru h1 h2).2.1⟩)
 refine AE (md := md3) (ms := [false]) UN (by simp) ?_
 simp [Mw]
 (repeat' first | apply And.intro) <;>
 ·refine AA (Ij W T cs hc) ?_
  simp
  have hbl : (if A0 W T cs = true then BO cs else []).length < 2 ^ 40 := by split <;> simp [BO] <;> omega
  (repeat' first | apply And.intro) <;>
  ·refine AA (Qx W T cs ds _ hc hd hbl) ?_
   simp
   exact tl
theorem WG {α β : Type} (c : α → Bool) (g : α → β) : ∀ l : List α, (l.flatMap fun k => if c k = true then [g k] else []) = (l.filter c).map g
 | [] => rfl
 | a :: l => by
   rw [List.flatMap_cons, WG c g l, List.filter_cons]
   cases c a <;> simp
def dp (ls : List Int) : List Nat := (List.range ls.length).filter fun k => decide (ati ls k = 1 ∨ ati ls k = 2)
theorem domK_mem {ls : List Int} {k : Nat} : k ∈ dp ls ↔ k < ls.length ∧ (ati ls k = 1 ∨ ati ls k = 2) := by simp [dp]
theorem dq (W T : Int) (ds ls : List Int) : B3 W T ds ls = (dp ls).map fun k : Nat => YC (ati ds k) (ati ds (AJ W T k (ati ls k))) := by
 have := WG (fun k : Nat => decide (ati ls k = 1 ∨ ati ls k = 2)) (fun k : Nat => YC (ati ds k) (ati ds (AJ W T k (ati ls k)))) (List.range ls.length)
 simp only [decide_eq_true_eq] at this
 exact this
theorem Q1 {W T : Int} {cs : List Bool} {ls : List Int} {k : Nat} (hr : A0 W T cs = true) (hy : AO W T cs ls = true) (hk : k ∈ dp ls) :
  ∃ t : Nat, AJ W T k (ati ls k) = t ∧ t < cs.length ∧ k < cs.length ∧ k < t ∧ atb cs k = true ∧ atb cs t = true ∧ ati ls t = Cn (ati ls k) ∧ AJ W T t (ati ls t) = k := by
 obtain ⟨w1, w2, t1, t2, l1, _⟩ := CM hr
 obtain ⟨hk1, hw⟩ := domK_mem.1 hk
 have hl := Ap hy
 obtain ⟨v1, v4, g3, g4, g5, g6⟩ := Ik hy hk1 (by omega)
 have sb := DU (W := W) (T := T) (k := k) (way := ati ls k) w1 (by omega) (by omega) g4
 obtain ⟨t, ht⟩ : ∃ t : Nat, AJ W T k (ati ls k) = t := ⟨(AJ W T k (ati ls k)).toNat, by omega⟩
 have hlt : (k : Int) < AJ W T k (ati ls k) := by
  unfold AJ at g4 ⊢
  rcases hw with h | h <;> rw [h] at g4 ⊢ <;> simp at g4 ⊢ <;> split at g4 <;> first | omega | (rename_i hc; rw [if_pos hc]; omega)
 rw [ht] at g5 g6 sb hlt
 exact ⟨t, ht, by omega, by omega, by omega, g3, g5, g6, by rw [g6]; exact sb.1⟩
theorem bb {W T : Int} {cs : List Bool} {ls : List Int} {j : Nat} (hr : A0 W T cs = true) (hy : AO W T cs ls = true) (hj : j < ls.length) (hw : 3 ≤ ati ls j) :
  ∃ k : Nat, AJ W T j (ati ls j) = k ∧ k ∈ dp ls ∧ AJ W T k (ati ls k) = j := by
 obtain ⟨w1, w2, t1, t2, l1, _⟩ := CM hr
 have hl := Ap hy
 obtain ⟨v1, v4, g3, g4, g5, g6⟩ := Ik hy hj (by omega)
 have sb := DU (W := W) (T := T) (k := j) (way := ati ls j) w1 (by omega) (by omega) g4
 obtain ⟨k, hk⟩ : ∃ k : Nat, AJ W T j (ati ls j) = k := ⟨(AJ W T j (ati ls j)).toNat, by omega⟩
 rw [hk] at g6 sb
 have hb : Cn (ati ls j) = 1 ∨ Cn (ati ls j) = 2 := by unfold Cn; omega
 refine ⟨k, hk, domK_mem.2 ⟨by omega, by omega⟩, by rw [g6]; exact sb.1⟩
def dr (cs : List Bool) : List Nat := (List.range cs.length).filter fun k : Nat => atb cs k
def du (cs : List Bool) (ls : List Int) : List Nat := (List.range cs.length).filter fun k : Nat => atb cs k && decide (ati ls k = 0)
def toK (W T : Int) (ls : List Int) : List Nat := (dp ls).map fun k : Nat => (AJ W T k (ati ls k)).toNat
theorem Q2 (cs : List Bool) : ∀ n, n ≤ cs.length → Bg (cs.take n) = ((List.range n).filter fun k : Nat => atb cs k).length
 | 0, _ => by simp [Bg]
 | n + 1, h => by
   rw [O2 cs n (by omega), Q2 cs n (by omega), List.range_succ, List.filter_append, List.length_append]
   congr 1
   by_cases hc : atb cs n = true <;> simp [hc]
theorem Yh (cs : List Bool) : (dr cs).length = Bg cs := by
 have := Q2 cs cs.length (Nat.le_refl _)
 rw [List.take_length] at this
 exact this.symm
theorem PI (n : Nat) : (List.range n).Nodup := List.nodup_range
theorem WH (ls : List Int) : (dp ls).Nodup := (PI _).filter _
theorem NM {α β : Type} {f : α → β} : ∀ {l : List α}, l.Nodup → (∀ x ∈ l, ∀ y ∈ l, f x = f y → x = y) → (l.map f).Nodup
 | [], _, _ => by simp
 | a :: l, hn, h => by
   rw [List.nodup_cons] at hn
   rw [List.map_cons, List.nodup_cons]
   refine ⟨?_, NM hn.2 fun x hx y hy => h x (by simp [hx]) y (by simp [hy])⟩
   intro hm
   obtain ⟨y, hy, e⟩ := List.mem_map.1 hm
   have := h y (by simp [hy]) a (by simp) e
   subst this
   exact hn.1 hy
theorem Ix {α : Type} : ∀ {l m : List α}, l.Nodup → m.Nodup → (∀ x ∈ l, x ∉ m) → (l ++ m).Nodup
 | [], m, _, hm, _ => hm
 | a :: l, m, hl, hm, h => by
   rw [List.nodup_cons] at hl
   rw [List.cons_append, List.nodup_cons]
   refine ⟨?_, Ix hl.2 hm fun x hx => h x (by simp [hx])⟩
   intro hx
   rcases List.mem_append.1 hx with h1 | h1
   ·exact hl.1 h1
   ·exact h a (by simp) h1
theorem Yi {l m : List Nat} (hn : l.Nodup) (h : ∀ x ∈ l, x ∈ m) : l.length ≤ m.length := by
 have h1 : (l.map Int.ofNat).Nodup := NM hn fun x _ y _ e => by simp at e; omega
 have := aO (m := m.map Int.ofNat) h1 (by
  intro x hx
  obtain ⟨y, hy, rfl⟩ := List.mem_map.1 hx
  exact List.mem_map.2 ⟨y, h y hy, rfl⟩)
 simpa using this
theorem Ze (ls : List Int) : (dp ls).length = JA ls := by
 have h1 := bS 1 1 [] ls
 rw [dq, List.length_map] at h1
 exact h1
theorem Zf {W T : Int} {cs : List Bool} {ls : List Int} (hr : A0 W T cs = true) (hy : AO W T cs ls = true) : Bg cs = 2 * JA ls + (du cs ls).length := by
 have hl := Ap hy
 have to_mem : ∀ t, t ∈ toK W T ls ↔ ∃ k, k ∈ dp ls ∧ (AJ W T k (ati ls k)).toNat = t := by intro t; simp [toK]
 have hto : (toK W T ls).Nodup := by
  refine NM (WH ls) ?_
  intro x hx y hy2 e
  obtain ⟨t, e1, _, _, _, _, _, _, b1⟩ := Q1 hr hy hx
  obtain ⟨s, e2, _, _, _, _, _, _, b2⟩ := Q1 hr hy hy2
  rw [e1, e2] at e
  have : t = s := by simpa using e
  subst this
  omega
 have hback : ∀ t, t ∈ toK W T ls → t < cs.length ∧ atb cs t = true ∧ 3 ≤ ati ls t := by
  intro t ht
  obtain ⟨k, hk, e⟩ := (to_mem t).1 ht
  obtain ⟨s, e1, h1, _, _, _, h5, h6, _⟩ := Q1 hr hy hk
  rw [e1] at e
  have : s = t := by simpa using e
  subst this
  refine ⟨h1, h5, ?_⟩
  rw [h6]
  have := (domK_mem.1 hk).2
  unfold Cn; omega
 have hbare : ∀ k, k ∈ du cs ls ↔ k < cs.length ∧ atb cs k = true ∧ ati ls k = 0 := by intro k; simp [du, and_assoc]
 have hcell : ∀ k, k ∈ dr cs ↔ k < cs.length ∧ atb cs k = true := by intro k; simp [dr]
 have hnd : (dp ls ++ (toK W T ls ++ du cs ls)).Nodup := by
  refine Ix (WH ls) (Ix hto ((PI _).filter _) ?_) ?_
  ·intro x hx hb
   have h1 := (hback x hx).2.2
   have h2 := ((hbare x).1 hb).2.2
   omega
  ·intro x hx hm
   have h0 := (domK_mem.1 hx).2
   rcases List.mem_append.1 hm with h1 | h1
   ·have := (hback x h1).2.2; omega
   ·have := ((hbare x).1 h1).2.2; omega
 have hle := Yi (m := dr cs) hnd (by
  intro x hx
  rw [hcell]
  rcases List.mem_append.1 hx with h1 | h1
  ·obtain ⟨t, _, _, h2, _, h3, _⟩ := Q1 hr hy h1
   exact ⟨h2, h3⟩
  ·rcases List.mem_append.1 h1 with h2 | h2
   ·exact ⟨(hback x h2).1, (hback x h2).2.1⟩
   ·exact ⟨((hbare x).1 h2).1, ((hbare x).1 h2).2.1⟩)
 have hge := Yi (l := dr cs) (m := dp ls ++ (toK W T ls ++ du cs ls)) ((PI _).filter _) (by
  intro x hx
  obtain ⟨h1, h2⟩ := (hcell x).1 hx
  rw [List.mem_append, List.mem_append]
  by_cases hz : ati ls x = 0
  ·exact .inr (.inr ((hbare x).2 ⟨h1, h2, hz⟩))
  obtain ⟨v1, v4, _⟩ := Ik hy (show x < ls.length by omega) hz
  by_cases hd : ati ls x = 1 ∨ ati ls x = 2
  ·exact .inl (domK_mem.2 ⟨by omega, hd⟩)
  obtain ⟨k, _, hk, e⟩ := bb hr hy (show x < ls.length by omega) (by omega)
  exact .inr (.inl ((to_mem x).2 ⟨k, hk, by rw [e]; simp⟩)))
 simp only [List.length_append, Yh, Ze, toK, List.length_map] at hle hge
 omega
end Go.Proofs.Dev
