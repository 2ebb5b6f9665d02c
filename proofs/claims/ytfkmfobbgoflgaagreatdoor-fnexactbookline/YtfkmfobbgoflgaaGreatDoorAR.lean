/- Contracts of the functions of the program over slots and rows, each proved against the program itself; no condition beyond those that each theorem names. -/
import Derived.Test.YtfkmfobbgoflgaaGreatDoorAQ
import Derived.Test.YtfkmfobbgoflgaaGreatDoorAH
import Derived.Shelf.Bits.Mul64
import Derived.Ground.NamesProg
import Derived.Test.YtfkmfobbgoflgaaGreatDoorProg
import Derived.Test.YtfkmfobbgoflgaaGreatDoorAK
import Derived.Test.YtfkmfobbgoflgaaGreatDoorAO
import Derived.Test.YtfkmfobbgoflgaaGreatDoorAL
import Derived.Test.YtfkmfobbgoflgaaGreatDoorAI
set_option linter.unusedSimpArgs false
set_option linter.unusedVariables false
set_option maxRecDepth 100000
namespace Go.Proofs.Dev
theorem ZD : ∀ {l m : List Int}, l.Nodup → (∀ x ∈ l, x ∈ m) → l.length ≤ m.length
 | [], m, _, _ => by simp
 | x :: l, m, hn, hs => by
   rw [List.nodup_cons] at hn
   have hx : x ∈ m := hs x (by simp)
   have h1 := ZD (l := l) (m := m.erase x) hn.2 (fun y hy => by
    rw [List.mem_erase_of_ne (by intro e; subst e; exact hn.1 hy)]
    exact hs y (by simp [hy]))
   rw [List.length_erase_of_mem hx] at h1
   have : 0 < m.length := List.length_pos_of_mem hx
   simp only [List.length_cons]; omega
theorem bf {W T : Int} {ds a b : List Int} (hl : a.length = b.length) (h : ∀ k : Nat, k < a.length → ati a k = 0 ∨ ati b k = ati a k) : List.Sublist (Bx W T ds a) (Bx W T ds b) := by
 have : ∀ n, n ≤ a.length → List.Sublist (Au W T ds a n) (Au W T ds b n) := by
  intro n
  induction n with
  | zero => intro _; simp [Au]
  | succ n ih =>
    intro hn
    rw [Ex, Ex]
    rcases h n (by omega) with h0 | h0
    ·rw [if_neg (by omega)]
     exact (ih (by omega)).append (List.nil_sublist _)
    ·rw [h0]
     exact (ih (by omega)).append (List.Sublist.refl _)
 have e := this a.length (Nat.le_refl _)
 unfold Bx
 rw [← hl]; exact e
theorem di {a b : List Int} (h : List.Sublist a b) (hb : Jp b = true) : Jp a = true := by
 simp only [Jp, decide_eq_true_eq] at hb ⊢
 exact h.nodup hb
theorem bg {W T : Int} {ds a b : List Int} (hl : a.length = b.length) (h : Jd a b = true) : List.Sublist (Bx W T ds a) (Bx W T ds b) :=
 bf hl fun k hk => hasB_iff.1 h k hk
theorem bh {a b c : List Int} (hl : a.length = b.length) (h1 : Jd a b = true) (h2 : Jd b c = true) : Jd a c = true := by
 rw [hasB_iff] at *
 intro k hk
 rcases h1 k hk with h | h
 ·exact .inl h
 ·rcases h2 k (by omega) with h3 | h3
  ·left; omega
  ·right; omega
def Kl (W T : Int) (ls : List Int) (cell : Int) : List Int := (ls.set (AJ W T cell (ati ls cell)).toNat 0).set cell.toNat 0
theorem MM (W T : Int) (ls : List Int) (cell : Int) : (Kl W T ls cell).length = ls.length := by simp [Kl]
theorem WO {W T : Int} {cs : List Bool} {ls : List Int} {k : Nat} (hr : Az W T cs = true) (hy : AO W T cs ls = true) (hk : k < ls.length) (hv : ati ls k ≠ 0) :
  ∃ t : Nat, AJ W T k (ati ls k) = t ∧ t < ls.length ∧ t ≠ k ∧ ∀ j : Nat, ati (Kl W T ls k) j = if j = k then 0 else if j = t then 0 else ati ls j := by
 obtain ⟨w1, w2, t1, t2, l1, _⟩ := CK hr
 have hl := An hy
 obtain ⟨v1, v4, g3, g4, g5, g6⟩ := IB hy hk hv
 obtain ⟨_, _, _, b4, b5⟩ := DK (W := W) (T := T) (k := k) (way := ati ls k) w1 (by omega) (by omega) g4
 refine ⟨(AJ W T k (ati ls k)).toNat, by omega, by omega, by omega, fun j => ?_⟩
 unfold Kl
 rw [Lh (by simpa using hk), Lh (by omega)]
 simp
theorem bi {W T : Int} {cs : List Bool} {ls : List Int} {k : Nat} (hr : Az W T cs = true) (hy : AO W T cs ls = true) (hk : k < ls.length) (hv : ati ls k ≠ 0) : AO W T cs (Kl W T ls k) = true := by
 obtain ⟨w1, w2, t1, t2, l1, _⟩ := CK hr
 have hl := An hy
 obtain ⟨t, e, ht, htk, hat⟩ := WO hr hy hk hv
 obtain ⟨v1, v4, g3, g4, g5, g6⟩ := IB hy hk hv
 have sb := DK (W := W) (T := T) (k := k) (way := ati ls k) w1 (by omega) (by omega) g4
 rw [e] at g6 sb
 simp only [AO, Bool.and_eq_true, decide_eq_true_eq, Cl, MM]
 refine ⟨hl, fun j hj => ?_⟩
 simp only [JX, decide_eq_true_eq]
 rw [hat j]
 by_cases e1 : j = k
 ·rw [if_pos e1]; exact .inl rfl
 rw [if_neg e1]
 by_cases e2 : j = t
 ·rw [if_pos e2]; exact .inl rfl
 rw [if_neg e2]
 by_cases e3 : ati ls j = 0
 ·exact .inl e3
 right
 obtain ⟨u1, u4, q3, q4, q5, q6⟩ := IB hy hj e3
 have sj := DK (W := W) (T := T) (k := j) (way := ati ls j) w1 (by omega) (by omega) q4
 obtain ⟨s, hs⟩ : ∃ s : Nat, AJ W T j (ati ls j) = s := ⟨(AJ W T j (ati ls j)).toNat, by omega⟩
 rw [hs] at q4 q5 q6 sj ⊢
 refine ⟨u1, u4, q3, q4, q5, ?_⟩
 rw [hat s]
 have n1 : s ≠ k := by
  intro h
  subst h
  have h2 := sj.1
  rw [← q6, e] at h2
  omega
 have n2 : s ≠ t := by
  intro h
  subst h
  have h2 := sj.1
  rw [← q6, g6, sb.1] at h2
  omega
 rw [if_neg n1, if_neg n2]; exact q6
theorem AR {W T : Int} {cs : List Bool} {ds ls : List Int} (h : Af W T cs ds ls = true) : Az W T cs = true ∧ Cd cs ds = true ∧ AO W T cs ls = true ∧ Jp (Bx W T ds ls) = true := by
 simp only [Af, okB, Bool.and_eq_true] at h
 exact ⟨h.1.1, h.1.2.1, h.1.2.2, h.2⟩
theorem Zo (W T : Int) (ds ls : List Int) : (Bx W T ds ls).length = Ie ls := by
 have : ∀ n, n ≤ ls.length → (Au W T ds ls n).length = Ie (ls.take n) := by
  intro n
  induction n with
  | zero => intro _; simp [Au, Ie]
  | succ n ih =>
    intro hn
    rw [Ex, List.length_append, ih (by omega), TM (by omega)]
    congr 1
    by_cases h : ati ls n = 1 ∨ ati ls n = 2
    ·rw [if_pos h]
     have : LX (ati ls n) = true := by simpa [LX] using h
     simp [this]
    ·rw [if_neg h]
     have : LX (ati ls n) = false := by simpa [LX] using h
     simp [this]
 have e := this ls.length (Nat.le_refl _)
 rw [List.take_length] at e
 exact e
theorem dk {W T : Int} {cs : List Bool} {ls : List Int} {k : Nat} {way : Int} (hr : Az W T cs = true) (hl : ls.length = cs.length) (hf : BU W T cs ls k way = true) : Jd ls (C2 W T ls k way) = true := by
 obtain ⟨t, e, t1, t2, t3, _, _, _, _, z1, z2, hat⟩ := E4 hr hl hf
 rw [hasB_iff]
 intro j hj
 rw [hat j]
 by_cases e1 : j = t
 ·subst e1; exact .inl z2
 by_cases e2 : j = k
 ·subst e2; exact .inl z1
 rw [if_neg e1, if_neg e2]; exact .inr rfl
theorem ZE {ls : List Int} {i : Nat} {v : Int} (h : i < ls.length) (hz : ati ls i = 0) : Ie (ls.set i v) = Ie ls + if LX v then 1 else 0 := by
 have he : ls[i] = 0 := by simpa [ati, h] using hz
 unfold Ie
 rw [List.countP_set h, he]
 simp [LX]
theorem dl {W T : Int} {cs : List Bool} {ls : List Int} {k : Nat} {way : Int} (hr : Az W T cs = true) (hl : ls.length = cs.length) (hf : BU W T cs ls k way = true) : Ie (C2 W T ls k way) = Ie ls + 1 := by
 obtain ⟨t, e, t1, t2, t3, v1, v4, _, _, z1, z2, hat⟩ := E4 hr hl hf
 unfold C2
 have h1 : ati (ls.set k way) t = 0 := by rw [Lh t2, if_neg t3]; exact z2
 rw [e]
 simp only [Int.toNat_natCast]
 rw [ZE (by simpa using t1) h1, ZE t2 z1]
 have : way = 1 ∨ way = 2 ∨ way = 3 ∨ way = 4 := by omega
 rcases this with rfl | rfl | rfl | rfl <;> simp [LX, Ck]
theorem XT (W T : Int) (cs : List Bool) (ds ls : List Int) (cell : Int) : F9 W T cs ds ls cell = [1, 2, 3, 4].filter (PO W T cs ds ls cell) := by
 simp only [F9, Gb, List.range_succ, List.range_zero, List.nil_append, List.flatMap_append, List.flatMap_cons, List.flatMap_nil, List.append_nil, List.filter_cons, List.filter_nil]
 cases h1 : PO W T cs ds ls cell 1 <;> cases h2 : PO W T cs ds ls cell 2 <;> cases h3 : PO W T cs ds ls cell 3 <;> cases h4 : PO W T cs ds ls cell 4 <;> simp [h1, h2, h3, h4]
theorem opts_mem {W T : Int} {cs : List Bool} {ds ls : List Int} {cell x : Int} : x ∈ F9 W T cs ds ls cell ↔ PO W T cs ds ls cell x = true ∧ 1 ≤ x ∧ x ≤ 4 := by
 rw [XT, List.mem_filter]
 simp only [List.mem_cons, List.not_mem_nil, or_false]
 constructor
 ·rintro ⟨h1, h2⟩; exact ⟨h2, by omega, by omega⟩
 ·rintro ⟨h1, h2, h3⟩; exact ⟨by omega, h1⟩
theorem XU {W T : Int} {cs : List Bool} {ds p : List Int} (h : Ct W T cs ds p = true) : Af W T cs ds p = true ∧ JZ cs p = true := by
 simpa only [Ct, Bool.and_eq_true] using h
theorem gx {cs : List Bool} {p : List Int} (h : JZ cs p = true) {k : Nat} (hk : k < cs.length) (hc : atb cs k = true) : ati p k ≠ 0 := by
 rw [JZ, Cl] at h
 have := h k hk
 simpa [Hl, hc] using this
theorem Zp {W T : Int} {cs : List Bool} {ds ls p : List Int} {k : Nat} (hy : AO W T cs ls = true) (hp : Ct W T cs ds p = true) (hs : Jd ls p = true) (hk : k < cs.length) (hc : atb cs k = true) (hz : ati ls k = 0) :
  PO W T cs ds ls k (ati p k) = true ∧ 1 ≤ ati p k ∧ ati p k ≤ 4 ∧ Jd (C2 W T ls k (ati p k)) p = true := by
 obtain ⟨hf, hfull⟩ := XU hp
 obtain ⟨hr, hd, hyp, ho⟩ := AR hf
 have hl := An hy
 have hlp := An hyp
 obtain ⟨w1, w2, t1, t2, l1, _⟩ := CK hr
 have hv := gx hfull hk hc
 obtain ⟨v1, v4, g3, g4, g5, g6⟩ := IB hyp (k := k) (by omega) hv
 obtain ⟨v, hvv⟩ : ∃ v, ati p k = v := ⟨_, rfl⟩
 rw [hvv] at v1 v4 g4 g5 g6 hv ⊢
 have sb := DK (W := W) (T := T) (k := k) (way := v) w1 (by omega) (by omega) g4
 obtain ⟨t, ht⟩ : ∃ t : Nat, AJ W T k v = t := ⟨(AJ W T k v).toNat, by omega⟩
 have hzt : ati ls t = 0 := by
  rcases hasB_iff.1 hs t (by omega) with h | h
  ·exact h
  ·exfalso
   rw [ht] at g6
   have := TO hr hy (k := k) (t := t) (way := v) (by omega) ht (by rw [← h]; exact g6)
   omega
 have hfree : BU W T cs ls k v = true := by
  simp only [BU, decide_eq_true_eq]
  exact ⟨by omega, by omega, g4, hc, g5, hz, by rw [ht]; exact hzt⟩
 have hh := bV hr hl hfree hs hvv g6
 refine ⟨?_, v1, v4, hh⟩
 simp only [PO, Bool.and_eq_true]
 exact ⟨hfree, di (bg (by rw [AL]; omega) hh) ho⟩
theorem Zq {W T : Int} {cs : List Bool} {ds ls p : List Int} (hy : AO W T cs ls = true) (hp : Ct W T cs ds p = true) (hs : Jd ls p = true) : Jd (BN W T cs ds ls) p = true := by
 have hl := An hy
 rcases FL W T cs ds ls with h | ⟨k, hk, he, hc, hz, hol, hob, hw⟩
 ·rw [BN, if_pos (by omega)]; exact hs
 ·rw [BN, he, if_neg (by omega)]
  obtain ⟨o1, o2, o3, o4⟩ := Zp hy hp hs (by omega) hc hz
  have hm : ati p k ∈ F9 W T cs ds ls k := opts_mem.2 ⟨o1, o2, o3⟩
  rw [hol, List.mem_singleton] at hm
  rw [← hm]; exact o4
theorem Zr {W T : Int} {cs : List Bool} {ds ls : List Int} (hr : Az W T cs = true) (hl : ls.length = cs.length) : Jd ls (BN W T cs ds ls) = true := by
 rcases FL W T cs ds ls with h | ⟨k, hk, he, hc, hz, hol, hob, hw⟩
 ·rw [BN, if_pos (by omega)]; exact KA ls
 ·rw [BN, he, if_neg (by omega)]
  exact dk hr hl (PQ hob)
theorem YT {W T : Int} {cs : List Bool} {ds ls : List Int} (hr : Az W T cs = true) (hl : ls.length = cs.length) (hb : Br W T cs ds ls = true) : Ie (BN W T cs ds ls) = Ie ls + 1 := by
 rcases FL W T cs ds ls with h | ⟨k, hk, he, hc, hz, hol, hob, hw⟩
 ·simp [Br, h] at hb
 ·rw [BN, he, if_neg (by omega)]
  exact dl hr hl (PQ hob)
theorem MN {W T : Int} {cs : List Bool} {ds : List Int} : ∀ (n : Nat) (ls : List Int), CF ls ≤ n → Af W T cs ds ls = true →
  Af W T cs ds (Aq W T cs ds n ls) = true ∧ Jd ls (Aq W T cs ds n ls) = true ∧ Br W T cs ds (Aq W T cs ds n ls) = false ∧
  ∀ p, Ct W T cs ds p = true → Jd ls p = true → Jd (Aq W T cs ds n ls) p = true
 | 0, ls, hz, hf => by
   refine ⟨hf, KA ls, ?_, fun p _ h => h⟩
   cases hb : Br W T cs ds (Aq W T cs ds 0 ls) with
   | false => rfl
   | true =>
     have := L9 hb
     rw [Aq] at this
     omega
 | n + 1, ls, hz, hf => by
   rw [Aq]
   obtain ⟨hr, hd, hy, ho⟩ := AR hf
   split
   ·rename_i hb
    have hz2 := L9 hb
    obtain ⟨i1, i2, i3, i4⟩ := MN n (BN W T cs ds ls) (by omega) (Ke hf)
    exact ⟨i1, bh (by rw [HH]) (Zr hr (An hy)) i2, i3, fun p hp hs => i4 p hp (Zq hy hp hs)⟩
   ·rename_i hb
    exact ⟨hf, KA ls, by simpa using hb, fun p _ h => h⟩
theorem Nd {W T : Int} {cs : List Bool} {ds ls : List Int} (hf : Af W T cs ds ls = true) :
  Af W T cs ds (BA W T cs ds ls) = true ∧ Jd ls (BA W T cs ds ls) = true ∧ Br W T cs ds (BA W T cs ds ls) = false ∧
  ∀ p, Ct W T cs ds p = true → Jd ls p = true → Jd (BA W T cs ds ls) p = true :=
 MN ls.length ls (JD ls) hf
end Go.Proofs.Dev
namespace Go.Proofs
open Go.Shelf
namespace Dev
end Dev
end Go.Proofs
namespace Go.Proofs.Dev
theorem Km (W T : Int) (cs : List Bool) (ls : List Int) (hb : cs.length < 2 ^ 40) (hl : ls.length < 2 ^ 40) :
  SoundAt Tryz.prog Pe [.agg [.v (.int .i64 W), .v (.int .i64 T), .sl 1 1 (AC cs)], .sl 1 1 (AB ls)] (.v (.bool (Az W T cs && AO W T cs ls))) [.bot, .bot] := by
 refine AE (md := md0) (ms := [false, false]) WD (by simp) ?_
 simp [Pf]
 refine AA (Iy W T cs hb) ?_
 cases hr : Az W T cs with
 | false => simp
 | true =>
 simp
 refine AA (I0 W T cs ls hr hl) ?_
 simp
@[simp] abbrev Nf : Nat := 191
def Ng : ACode := .seq (.reg [.o 3 .box [.t 0], .o 6 .mv [.c (.os 1 [])], .o 7 .mv [.kb false]]) <| .seq (.block 0 ( .seq (.reg [.la 9 3 3, .m 10 1, .o 11 (.call 179 []) [.t 9, .t 10], .o 12 (.un .not) [.t 11], .m 8 12]) <| .cond (.t 8) ( .seq (.reg [.o 6 .mv [.c (.os 1 [])], .o 7 .mv [.kb false]]) <| .ret) ( .seq (.reg [.la 14 3 3, .m 15 2, .o 16 (.call 229 []) [.t 14, .t 15], .o 17 (.un .not) [.t 16], .m 18 17, .mg 19 1 18 false, .mg 20 2 18 false, .g 21 (.iadr 1) [.t 19, .t 20] 18 false, .lg 22 21 18 false, .g 23 (.bin .eql 0) [.t 22, .k 0] 18 false, .o 24 .pick [.t 18, .kb true, .t 23], .m 13 24]) <| .cond (.t 13) ( .seq (.reg [.m 25 1, .o 26 (.call 126 []) [.t 25], .m 6 26, .o 7 .mv [.kb false]]) <| .ret) ( .skip)))) <| .seq (.reg [.la 27 3 3, .m 28 1, .m 29 2, .o 30 (.call 236 []) [.t 27, .t 28, .t 29], .m 6 30, .o 7 .mv [.kb true]]) <| .ret
theorem UV : cFn Tryz.prog Nf 31 [.t 6, .t 7] Ng := ⟨Tryz.f191, _, Tryz.func191, rfl, by kernel_rfl, by kernel_rfl, by kernel_rfl, by kernel_rfl⟩
@[simp] abbrev Pv : Nat := 190
def Pw : ACode := .seq (.reg [.o 4 .box [.t 0], .o 8 .mv [.c (.os 1 [])], .o 9 .mv [.kb false]]) <| .seq (.block 0 ( .seq (.reg [.la 11 3 4, .m 12 1, .o 13 (.call 179 []) [.t 11, .t 12], .o 14 (.un .not) [.t 13], .m 10 14]) <| .cond (.t 10) ( .seq (.reg [.o 8 .mv [.c (.os 1 [])], .o 9 .mv [.kb false]]) <| .ret) ( .seq (.reg [.la 16 3 4, .m 17 1, .m 18 2, .m 19 3, .o 20 (.call 234 []) [.t 16, .t 17, .t 18, .t 19], .o 21 (.un .not) [.t 20], .m 15 21]) <| .cond (.t 15) ( .seq (.reg [.m 22 1, .o 23 (.call 126 []) [.t 22], .m 8 23, .o 9 .mv [.kb false]]) <| .ret) ( .skip)))) <| .seq (.reg [.la 24 3 4, .m 25 1, .m 26 2, .m 27 3, .o 28 (.call 235 []) [.t 24, .t 25, .t 26, .t 27], .m 8 28, .o 9 .mv [.kb true]]) <| .ret
theorem WP : cFn Tryz.prog Pv 29 [.t 8, .t 9] Pw := ⟨Tryz.f190, _, Tryz.func190, rfl, by kernel_rfl, by kernel_rfl, by kernel_rfl, by kernel_rfl⟩
@[simp] abbrev JN : Nat := 236
def Gk : ACode := .seq (.reg [.m 22 7, .m 6 22]) <| .ret
abbrev Gl : Plan := .al (.o 17 (.call 205 []) [.t 11, .t 12, .t 16]) ( .take (.o 20 (.iadr 1) [.t 10, .t 17]) <| .al (.s (.store 1) [.t 20, .k 0]) ( .take (.o 21 (.iadr 1) [.t 18, .t 19]) <| .al (.s (.store 1) [.t 21, .k 0]) ( .done)))
def JO : ACode := .seq (.reg [.o 3 .box [.t 0], .o 6 .mv [.c (.os 1 [])]]) <| .seq (.reg [.m 8 1, .o 9 (.call 126 []) [.t 8], .m 7 9]) <| .seq (.draw ( .take (.m 10 7) <| .take (.m 12 2) <| .take (.m 13 1) <| .take (.m 14 2) <| .take (.o 15 (.iadr 1) [.t 13, .t 14]) <| .take (.m 18 7) <| .take (.m 19 2) <| .alt (.la 11 3 3) ( .al (.l 16 15) Gl) <| .al (.l 16 15) ( .al (.la 11 3 3) Gl))) <| .gc [] [7] Gk
theorem Px : cFn Tryz.prog JN 23 [.t 6] JO := ⟨Tryz.f236, _, Tryz.func236, rfl, by kernel_rfl, by kernel_rfl, by kernel_rfl, by kernel_rfl⟩
@[simp] abbrev GQ : Nat := 141
def KG : ACode := .seq (.reg [.m 40 8, .m 41 2, .o 42 (.iadr 1) [.t 40, .t 41], .s (.store 1) [.t 42, .k 0]]) <| .seq (.reg [.m 43 8, .m 6 43, .o 7 .mv [.kb true]]) <| .ret
abbrev KH : Plan := .al (.o 38 (.call 169 []) [.t 32, .t 33, .t 37]) ( .take (.o 39 (.iadr 1) [.t 31, .t 38]) <| .al (.s (.store 1) [.t 39, .k 0]) ( .done))
def Jg : ACode := .seq (.reg [.o 3 .box [.t 0], .o 6 .mv [.c (.os 1 [])], .o 7 .mv [.kb false]]) <| .seq (.seq (.reg [.la 9 3 3, .m 10 1, .o 11 (.call 122 []) [.t 9, .t 10], .o 12 (.un .not) [.t 11]]) <| .cond (.t 12) ( .seq (.reg [.o 13 (.bsl 1) [], .m 6 13, .o 7 .mv [.kb false]]) <| .ret) ( .skip)) <| .seq (.reg [.o 14 (.bsl 1) [], .m 15 1, .o 16 (.app 1 8 true) [.t 14, .t 15], .m 8 16]) <| .seq (.seq (.reg [.m 17 2, .m 18 1, .n 19 18, .o 20 (.bin .sub 0) [.t 19, .k 1], .o 21 (.call 106 []) [.t 17, .k 0, .t 20], .o 22 (.un .not) [.t 21], .m 23 22, .mg 24 1 23 false, .mg 25 2 23 false, .g 26 (.iadr 1) [.t 24, .t 25] 23 false, .lg 27 26 23 false, .g 28 (.bin .eql 0) [.t 27, .k 0] 23 false, .o 29 .pick [.t 23, .kb true, .t 28]]) <| .cond (.t 29) ( .seq (.reg [.m 30 8, .m 6 30, .o 7 .mv [.kb false]]) <| .ret) ( .skip)) <| .seq (.draw ( .take (.m 31 8) <| .take (.m 33 2) <| .take (.m 34 1) <| .take (.m 35 2) <| .take (.o 36 (.iadr 1) [.t 34, .t 35]) <| .alt (.la 32 3 3) ( .al (.l 37 36) KH) <| .al (.l 37 36) ( .al (.la 32 3 3) KH))) <| .gc [] [2, 8] KG
theorem Nh : cFn Tryz.prog GQ 44 [.t 6, .t 7] Jg := ⟨Tryz.f141, _, Tryz.func141, rfl, by kernel_rfl, by kernel_rfl, by kernel_rfl, by kernel_rfl⟩
end Go.Proofs.Dev
