/- Contracts of the functions of the program over slots and rows, each proved against the program itself; no condition beyond those that each theorem names. -/
import Derived.Test.YtfkmfobbgoflgaaAR
import Derived.Laws.EntriesVeiled
import Derived.Test.YtfkmfobbgoflgaaAQ
import Derived.Test.YtfkmfobbgoflgaaProg
import Derived.Test.YtfkmfobbgoflgaaAO
import Derived.Test.YtfkmfobbgoflgaaAN

set_option linter.unusedSimpArgs false
set_option linter.unusedVariables false

namespace Go.Proofs.Dev
open Go.RowKit Go.Maps Go.WideMaps
set_option linter.unusedVariables false
set_option linter.unusedSimpArgs false

theorem i5 : (Try.prog.info? 5).map (fun i => (i.zero, i.size, i.bytes)) = some (some (.int .u8 0), 1, 1) := by kernel_rfl
theorem zero3 (w : World) : (zeroValue 3).run Try.prog w = .ok (.int .i64 0) w := by rfl

/-- The value of the closure. -/
abbrev fnV (rb kb wb : Nat) : Value := .func (.func 59) #[] #[.pointer (some ⟨rb, 0, none⟩), .pointer (some ⟨kb, 0, none⟩), .pointer (some ⟨wb, 0, none⟩)]

/-- What is known, in at most n entries, is right. -/
def Known (W T : Int) (cs : List Bool) (mb n : Nat) (w : World) : Prop := ∃ m D, m ≤ n ∧ w.ownsMap Try.prog 9 (plainElem Try.prog 3) mb m D ∧ Good W T cs D

/-- What a copy is. -/
def Copied (cov : List Bool) (N : Nat) (w : World) (e : Ending) (w' : World) : Prop := ∃ g p cap, e = .returned (.slice (some ⟨g, p, none⟩) N cap) ∧ w.heap.size ≤ g ∧ N ≤ cap ∧ w.grownBy w' none ∧ ∀ (j : Nat) (x : Bool), cov[j]? = some x → w'.cell? ⟨g, p + j, none⟩ = some (.bool x) ∧ w'.frozen? ⟨g, p + j, none⟩ = false

/-- What the walk of the cells finds in memory: the region, the closure, the cells. -/
structure EnvC (W T : Int) (cs : List Bool) (rb kb wb mb sb sp scap : Nat) (w : World) : Prop where
  r0 : w.cell? ⟨rb, 0, none⟩ = some (.int .i64 W)
  r1 : w.cell? ⟨rb, 1, none⟩ = some (.int .i64 T)
  r2 : w.cell? ⟨rb, 2, none⟩ = some (.slice (some ⟨sb, sp, none⟩) cs.length scap)
  k : w.cell? ⟨kb, 0, none⟩ = some (.map (some mb))
  f : w.cell? ⟨wb, 0, none⟩ = some (fnV rb kb wb)
  cells : ∀ (j : Nat) (x : Bool), cs[j]? = some x → w.cell? ⟨sb, sp + j, none⟩ = some (.bool x)

theorem Known.keep {W T : Int} {cs : List Bool} {mb n n' : Nat} {w w' : World} (h : Known W T cs mb n w) (hn : n ≤ n') (hg : w.grownBy w' none) : Known W T cs mb n' w' := by
  obtain ⟨m, D, h1, h2, h3⟩ := h
  exact ⟨m, D, Nat.le_trans h1 hn, h2.kept hg (by simp), h3⟩
theorem EnvC.grown {W T : Int} {cs : List Bool} {rb kb wb mb sb sp scap : Nat} {w w' : World} (h : EnvC W T cs rb kb wb mb sb sp scap w) (hg : w.grownBy w' (some mb)) (hm : ∀ o, w.cell? ⟨mb, o, none⟩ = none) : EnvC W T cs rb kb wb mb sb sp scap w' := by
  have ne : ∀ {b o v}, w.cell? ⟨b, o, none⟩ = some v → some b ≠ some mb := fun {b o v} hc e => by
    cases e
    rw [hm o] at hc; cases hc
  exact ⟨hg.cell h.r0 (ne h.r0), hg.cell h.r1 (ne h.r1), hg.cell h.r2 (ne h.r2), hg.cell h.k (ne h.k), hg.cell h.f (ne h.f), fun j x hx => hg.cell (h.cells j x hx) (ne (h.cells j x hx))⟩

/-- What a call from a cell on leaves behind. -/
def Post (W T : Int) (cs cov : List Bool) (c mb n : Nat) (w : World) (e : Ending) (w' : World) : Prop :=
  e = .returned (.int .i64 (valB W T cs c cov)) ∧ Known W T cs mb (n + (2 ^ (cs.length + 1 - c) - 1)) w' ∧ w.grownBy w' (some mb)

theorem Known.mono {W T : Int} {cs : List Bool} {mb n n' : Nat} {w : World} (h : Known W T cs mb n w) (hn : n ≤ n') : Known W T cs mb n' w := by
  obtain ⟨m, D, h1, h2⟩ := h
  exact ⟨m, D, Nat.le_trans h1 hn, h2⟩

/-- Behind the copy and its two stores. -/
theorem walk_next {W T : Int} {cs cov : List Bool} {rb kb wb mb sb sp scap k t m g p : Nat} {D : DataW Unit} {w w4 w5 : World} (hg4 : w.grownBy w4 none) (hg5 : w4.grownBy w5 none) (hgs : w4.heap.size ≤ g) (hk : k < cov.length) (ht : t < cov.length) (htk : t ≠ k)
    (hc5 : ∀ (j : Nat) (x : Bool), cov[j]? = some x → w5.cell? ⟨g, p + j, none⟩ = some (.bool x) ∧ w5.frozen? ⟨g, p + j, none⟩ = false)
    (hE : EnvC W T cs rb kb wb mb sb sp scap w) (hm : ∀ o, w.cell? ⟨mb, o, none⟩ = none) (hmap : w.ownsMap Try.prog 9 (plainElem Try.prog 3) mb m D) :
    ∃ xk xt : Bool, w5.cell? ⟨g, p + k, none⟩ = some (.bool xk) ∧ w5.frozen? ⟨g, p + k, none⟩ = false ∧ (w5.setCell ⟨g, p + k, none⟩ (.bool true)).cell? ⟨g, p + t, none⟩ = some (.bool xt) ∧ w5.frozen? ⟨g, p + t, none⟩ = false ∧
      ((w5.setCell ⟨g, p + k, none⟩ (.bool true)).setCell ⟨g, p + t, none⟩ (.bool true)).cell? ⟨wb, 0, none⟩ = some (fnV rb kb wb) ∧
      Hid (EnvC W T cs rb kb wb mb sb sp scap ((w5.setCell ⟨g, p + k, none⟩ (.bool true)).setCell ⟨g, p + t, none⟩ (.bool true)) ∧
        (∀ (j : Nat) (x : Bool), ((cov.set k true).set t true)[j]? = some x → ((w5.setCell ⟨g, p + k, none⟩ (.bool true)).setCell ⟨g, p + t, none⟩ (.bool true)).cell? ⟨g, p + j, none⟩ = some (.bool x)) ∧
        ((w5.setCell ⟨g, p + k, none⟩ (.bool true)).setCell ⟨g, p + t, none⟩ (.bool true)).ownsMap Try.prog 9 (plainElem Try.prog 3) mb m D ∧
        w.grownBy ((w5.setCell ⟨g, p + k, none⟩ (.bool true)).setCell ⟨g, p + t, none⟩ (.bool true)) none) := by
  have hsz := hg4.size
  have h1 := hc5 k cov[k] (List.getElem?_eq_getElem hk)
  have h2 := hc5 t cov[t] (List.getElem?_eq_getElem ht)
  have h05 : w.grownBy w5 none := grown_new hg4 hg5 (fun _ e => by cases e)
  have hg : w.heap.size ≤ g := by omega
  have h06 : w.grownBy ((w5.setCell ⟨g, p + k, none⟩ (.bool true)).setCell ⟨g, p + t, none⟩ (.bool true)) none := grown_set (grown_set h05 hg _) hg _
  have hE6 := hE.grown (grown_weak h06) hm
  refine ⟨cov[k], cov[t], h1.1, h1.2, ?_, h2.2, hE6.f, hE6, ?_, hmap.kept h06 (by simp), h06⟩
  · rw [World.cell?_setCell_other _ _ _ _ (by intro he; simp at he; try omega)]
    exact h2.1
  · exact set_cells (by simpa using ht) (set_cells hk (fun j x hj => (hc5 j x hj).1))

theorem next_call {W T : Int} {cs cov : List Bool} {rb kb wb mb k y n : Nat} {v : Value} {z : Int} {w : World}
    (h : Calls Try.prog 59 #[v, .int .i64 ((k + 1 : Nat) : Int), .pointer (some ⟨rb, 0, none⟩), .pointer (some ⟨kb, 0, none⟩), .pointer (some ⟨wb, 0, none⟩)] w (Post W T cs cov (k + 1) mb n w)) (hz : ((k + 1 : Nat) : Int) = z) (hy : valB W T cs (k + 1) cov = y) :
    Calls Try.prog 59 #[v, .int .i64 z, .pointer (some ⟨rb, 0, none⟩), .pointer (some ⟨kb, 0, none⟩), .pointer (some ⟨wb, 0, none⟩)] w
      (fun e w' => e = .returned (.int .i64 (y : Int)) ∧ Known W T cs mb (n + (2 ^ (cs.length + 1 - (k + 1)) - 1)) w' ∧ w.grownBy w' (some mb)) := by
  subst hz hy
  exact h

set_option maxHeartbeats 4000000 in
set_option maxRecDepth 100000 in
theorem walk_any {W T : Int} {cs : List Bool} {rb kb wb mb sb sp scap : Nat} (h36 : cs.length ≤ 36)
    (h1W : 1 ≤ W)
    (hrange : ∀ cell way : Nat, cell < cs.length → 0 ≤ stepI W T cell way → (stepI W T cell way).toNat < cs.length)
    (hstep : ∀ (w : World) (cell way : Int), 0 ≤ cell → cell < cs.length → (∀ (j : Nat) (x : Bool), cs[j]? = some x → w.cell? ⟨sb, sp + j, none⟩ = some (.bool x)) →
      Calls Try.prog 60 #[.agg #[.int .i64 W, .int .i64 T, .slice (some ⟨sb, sp, none⟩) cs.length scap], .int .i64 cell, .int .i64 way] w fun e w' => e = .returned (.int .i64 (stepI W T cell way)) ∧ w.grownBy w' none)
    (hclone : ∀ (w : World) (cb cp ccap : Nat) (cov : List Bool), 0 < cs.length → cov.length = cs.length → cs.length ≤ ccap → (∀ (j : Nat) (x : Bool), cov[j]? = some x → w.cell? ⟨cb, cp + j, none⟩ = some (.bool x)) →
      Calls Try.prog 61 #[.slice (some ⟨cb, cp, none⟩) cs.length ccap] w (Copied cov cs.length w))
    (c cb cp ccap n : Nat) (cov : List Bool) (D : DataW Unit) (w : World) (hc : c ≤ cs.length) (hl : cov.length = cs.length) (hcap : cs.length ≤ ccap) (hn : n + 2 ^ (cs.length + 1 - c) ≤ 2 ^ 40)
    (henv : EnvC W T cs rb kb wb mb sb sp scap w) (hcov : ∀ (j : Nat) (x : Bool), cov[j]? = some x → w.cell? ⟨cb, cp + j, none⟩ = some (.bool x))
    (hmap : w.ownsMap Try.prog 9 (plainElem Try.prog 3) mb n D) (hgood : Good W T cs D)
    (hself : ∀ (c' cb cp ccap n : Nat) (cov : List Bool) (D : DataW Unit) (w : World), c < c' → c' ≤ cs.length → cov.length = cs.length → cs.length ≤ ccap → n + 2 ^ (cs.length + 1 - c') ≤ 2 ^ 40 →
      EnvC W T cs rb kb wb mb sb sp scap w → (∀ (j : Nat) (x : Bool), cov[j]? = some x → w.cell? ⟨cb, cp + j, none⟩ = some (.bool x)) → w.ownsMap Try.prog 9 (plainElem Try.prog 3) mb n D → Good W T cs D →
      Calls Try.prog 59 #[.slice (some ⟨cb, cp, none⟩) cs.length ccap, .int .i64 c', .pointer (some ⟨rb, 0, none⟩), .pointer (some ⟨kb, 0, none⟩), .pointer (some ⟨wb, 0, none⟩)] w (Post W T cs cov c' mb n w)) :
    Calls Try.prog 59 #[.slice (some ⟨cb, cp, none⟩) cs.length ccap, .int .i64 c, .pointer (some ⟨rb, 0, none⟩), .pointer (some ⟨kb, 0, none⟩), .pointer (some ⟨wb, 0, none⟩)] w
      (Post W T cs cov c mb n w) := by
  obtain ⟨i0, hi, hz0, hz1, hz2⟩ := info_parts i5
  have r2 := henv.r2
  have Hstep := Lib.hid hstep
  have Hclone := Lib.hid hclone
  have Hself := Lib.hid hself
  have Hrange := Lib.hid hrange
  have Hnone := Lib.hid (map_none hmap)
  clear hstep hclone hself hrange
  have HE := Lib.hid henv
  have HC := Lib.hid hcov
  have HM := Lib.hid hmap
  clear hcov hmap henv
  go_enter Try.func59, Try.ntmps59
  go_wp2_with fail
  go_loop [1] (fun i => ∃ k : Nat, c ≤ k ∧ k ≤ cs.length ∧ i = .int .i64 k ∧ Hid (∀ j, c ≤ j → j < k → gB cs cov j = false)) (fun i => cs.length - (intOf i).toNat)
  case atStart => exact ⟨c, Nat.le_refl _, hc, rfl, fun j h1 h2 => by omega⟩
  case round =>
    obtain ⟨k, hk1, hk2, rfl, hfree⟩ := hrel
    have next : gB cs cov k = false → Hid (∀ j, c ≤ j → j < k + 1 → gB cs cov j = false) := fun h0 j h1 h2 => by
      rcases Nat.lt_or_ge j k with h3 | h3
      · exact hfree.out j h1 h3
      · rw [show j = k by omega]; exact h0
    by_cases hlt : k < cs.length
    · have cellAt : ∀ x, cs.getD k false = x → w.cell? ⟨sb, sp + k, none⟩ = some (.bool x) := fun x hx => HE.out.cells k x (by rw [List.getElem?_eq_getElem hlt]; simpa [List.getD_eq_getElem?_getD, List.getElem?_eq_getElem hlt] using hx)
      have covAt : ∀ x, cov.getD k false = x → w.cell? ⟨cb, cp + k, none⟩ = some (.bool x) := fun x hx => HC.out k x (by rw [List.getElem?_eq_getElem (by omega)]; simpa [List.getD_eq_getElem?_getD, List.getElem?_eq_getElem (show k < cov.length by omega)] using hx)
      have HcellAt := Lib.hid cellAt
      have HcovAt := Lib.hid covAt
      clear cellAt covAt
      cases hx : cs.getD k false with
      | false =>
        have c1 := HcellAt.out false hx
        have nx := next (by simp only [gB, hx]; rfl)
        clear hx next
        go_wp2
        go_round
        case rel => exact ⟨k + 1, by omega, by omega, by go_num, nx⟩
        case measure => simp [intOf]; omega
      | true =>
        have c1 := HcellAt.out true hx
        cases hy : cov.getD k false with
        | true =>
          have c2 := HcovAt.out true hy
          have nx := next (by simp only [gB, hy, Bool.not_true, Bool.and_false])
          clear hx hy next
          go_wp2
          go_round
          case rel => exact ⟨k + 1, by omega, by omega, by go_num, nx⟩
          case measure => simp [intOf]; omega
        | false =>
          have c2 := HcovAt.out false hy
          have HG := Lib.hid (show gB cs cov k = true by simp only [gB, hx, hy]; rfl)
          clear hx hy next
          have hke : decide (k = cs.length) = false := by simp; omega
          go_wp2_with (first | (at_make; refine wpList_make_own _ rfl _ _ 22 rfl w.heap.size 5 i0 (.int .u8 0) 1 Try.underlying22 hi hz0 hz1 .i64 .i64 ((cs.length : Int) + 1) (cs.length + 1) rfl rfl (by simp) (by rw [hz2]; omega) (by unfold maxLen; omega) (Nat.le_refl _) ?_; intro w1 hown1 hgrow1) | (at_builtin; refine wpList_append_own_at _ rfl _ _ 22 rfl w.heap.size 5 i0 (.int .u8 0) 1 1 Try.underlying22 hi hz0 hz1 hz2 rfl (by decide) _ _ _ rfl (hown1.alloc _) ⟨w1.heap.size, 0, none⟩ 1 1 [.int .u8 (k : Int)] rfl rfl (cell_one_new _ _ _) (by intro u hu; simp at hu; subst hu; rfl) (by unfold maxLen; omega) (by omega) (by have := hgrow1.size; simp; omega) ?_; intro v2 w2 hown2 hgrow2 hnil2 hat2))
          have HO2 := Lib.hid (show w2.ownsRow w.heap.size 5 1 v2 (0 + 1) (bytesV (keyP k cov 0)) by rw [keyP_zero k cov (by omega)]; exact hown2)
          have HB2 := Lib.hid (show w.grownBy w2 none from grown_new (grown_alloc hgrow1 _) hgrow2 (fun b e => by cases e; exact Nat.le_refl _))
          clear hown1 hgrow1 hown2 hgrow2 hnil2 hat2 c1 c2
          go_loopw [8, 55] (fun v i wr => ∃ j : Nat, j ≤ cs.length - k ∧ i = .int .i64 j ∧ Hid (wr.ownsRow w.heap.size 5 1 v (j + 1) (bytesV (keyP k cov j))) ∧ Hid (w.grownBy wr none)) (fun _ i _ => cs.length - k - (intOf i).toNat)
          case atStart => exact ⟨0, by omega, rfl, HO2, HB2⟩
          case round =>
            clear HO2 HB2
            obtain ⟨j, hj, rfl, HO, HB⟩ := hrel
            by_cases hjl : j < cs.length - k
            · have hBs := HB.out.size
              have kcell : ∀ x, cov.getD (k + j) false = x → wr.cell? ⟨cb, cp + k + j, none⟩ = some (.bool x) := fun x hx => by
                rw [Nat.add_assoc]
                exact HB.out.cell (HC.out (k + j) x (by rw [List.getElem?_eq_getElem (by omega)]; simpa [List.getD_eq_getElem?_getD, List.getElem?_eq_getElem (show k + j < cov.length by omega)] using hx)) (by simp)
              have Hkcell := Lib.hid kcell
              clear kcell
              cases hz : cov.getD (k + j) false with
              | true =>
                have c3 := Hkcell.out true hz
                have Hstep := Lib.hid (keyP_succ (c := k) (j := j) (by omega) hz)
                clear hz Hkcell
                go_wp2_with (at_builtin; refine wpList_append_own_at _ rfl _ _ 22 rfl w.heap.size 5 i0 (.int .u8 0) 1 1 Try.underlying22 hi hz0 hz1 hz2 rfl (by decide) _ _ _ rfl (HO.out.alloc _) ⟨wr.heap.size, 0, none⟩ 1 1 [.int .u8 49] rfl rfl (cell_one_new _ _ _) (by intro u hu; simp at hu; subst hu; rfl) (by unfold maxLen; omega) (by omega) (by simp; omega) ?_; intro v3 w3 hown3 hgrow3 hnil3 hat3)
                have HO3 := Lib.hid (show w3.ownsRow w.heap.size 5 1 v3 (j + 1 + 1) (bytesV (keyP k cov (j + 1))) by rw [Hstep.out, bytesV_append]; exact hown3)
                have HB3 := Lib.hid (show w.grownBy w3 none from grown_new (grown_alloc HB.out _) hgrow3 (fun b e => (HO.out.lt b e).1))
                clear hown3 hgrow3 hnil3 hat3
                go_roundw
                case rel => exact ⟨j + 1, by omega, by go_num, HO3, HB3⟩
                case measure => simp [intOf]; omega
              | false =>
                have c3 := Hkcell.out false hz
                have Hstep := Lib.hid (keyP_succ (c := k) (j := j) (by omega) hz)
                clear hz Hkcell
                go_wp2_with (at_builtin; refine wpList_append_own_at _ rfl _ _ 22 rfl w.heap.size 5 i0 (.int .u8 0) 1 1 Try.underlying22 hi hz0 hz1 hz2 rfl (by decide) _ _ _ rfl (HO.out.alloc _) ⟨wr.heap.size, 0, none⟩ 1 1 [.int .u8 48] rfl rfl (cell_one_new _ _ _) (by intro u hu; simp at hu; subst hu; rfl) (by unfold maxLen; omega) (by omega) (by simp; omega) ?_; intro v3 w3 hown3 hgrow3 hnil3 hat3)
                have HO3 := Lib.hid (show w3.ownsRow w.heap.size 5 1 v3 (j + 1 + 1) (bytesV (keyP k cov (j + 1))) by rw [Hstep.out, bytesV_append]; exact hown3)
                have HB3 := Lib.hid (show w.grownBy w3 none from grown_new (grown_alloc HB.out _) hgrow3 (fun b e => (HO.out.lt b e).1))
                clear hown3 hgrow3 hnil3 hat3
                go_roundw
                case rel => exact ⟨j + 1, by omega, by go_num, HO3, HB3⟩
                case measure => simp [intOf]; omega
            · obtain ⟨wa, rfl⟩ : ∃ wa, wa = wr := ⟨_, rfl⟩
              have hje : cov.length ≤ k + j := by omega
              obtain ⟨g, cap, rfl⟩ := own_shape HO.out
              have hlen := keyP_len (c := k) (cov := cov) (j := j) (by omega)
              have HO' := HO.out
              have hcells : ∀ t (ht : t < (keyP k cov j).length), wa.cell? ((⟨g, 0, none⟩ : Addr).add t) = some (.int .u8 ((keyP k cov j)[t].toNat : Int)) := fun t ht => by
                rw [Addr.add_lit, Nat.zero_add, HO'.cellAt t (by omega)]
                simp [bytesV, ht]
              have hcv := run_convert_bytes_back (P := Try.prog) wa 22 9 5 ⟨g, 0, none⟩ cap (keyP k cov j) Try.underlying22 Try.underlying5 Try.underlying9 hcells
              rw [hlen, keyP_all hje] at hcv
              have hkl : (keyL k cov).length ≤ 100 := by rw [← keyP_all hje, hlen]; omega
              have hkey : keyOf Try.prog 9 (.string ⟨(keyL k cov).toArray⟩) = some (.string (keyL k cov)) := by
                simpa using keyOf_string_mk (P := Try.prog) Try.underlying9 (s := ⟨(keyL k cov).toArray⟩) (by simp [ByteArray.size, maxLen]; omega)
              have hmr := HM.out.kept HB.out (by simp)
              have ck := HB.out.cell HE.out.k (by simp)
              have Hkey := Lib.hid hkey
              have Hval := Lib.hid (show valB W T cs c cov = valB W T cs k cov by
                have := cntF_skip (W := W) (T := T) (cs.length - k) (G := gB cs cov) (k - c) c (fun i h1 h2 => hfree.out i h1 (by omega))
                rw [show cs.length - k + (k - c) = cs.length - c by omega, show c + (k - c) = k by omega] at this
                exact this)
              clear HO' hcells hlen hkey
              generalize hK : keyL k cov = key at *
              have HK := Lib.hid hK
              clear hK
              cases hh : Maps.has D (.string key) with
              | true =>
                go_wp2_with (at_lookup; refine wpList_lookup_own_ok_int _ rfl _ _ 68 rfl 9 3 .i64 (Maps.string_keyed Try.underlying9) Try.underlying68 Try.underlying3 (zero3 _) mb n D rfl hmr _ _ rfl Hkey.out ?_; intro x hat hwx; have Hat := Lib.hid hat; clear hat)
                go_ret
                have hx := hgood k cov (by omega) hl (by rw [HK.out]; exact hh)
                rw [HK.out, Hat.out] at hx
                have hx' : x = (valB W T cs k cov : Int) := by simpa using hx
                exact ⟨by rw [Hval.out, hx']; rfl, ⟨n, D, Nat.le_add_right _ _, hmr, hgood⟩, ⟨HB.out.os, HB.out.tape, HB.out.output, HB.out.size, fun b hb _ => HB.out.block b hb (by simp)⟩⟩
              | false =>
                go_wp2_with (at_lookup; refine wpList_lookup_own_ok_int _ rfl _ _ 68 rfl 9 3 .i64 (Maps.string_keyed Try.underlying9) Try.underlying68 Try.underlying3 (zero3 _) mb n D rfl hmr _ _ rfl Hkey.out ?_; intro x hat hwx; have Hat := Lib.hid hat; clear hat)
                have hP1 : 1 ≤ 2 ^ (cs.length - k) := Nat.pow_pos (by omega)
                have hP2 : 2 * 2 ^ (cs.length - k) ≤ 2 ^ (cs.length + 1 - c) := by
                  rw [← Nat.pow_succ']
                  exact Nat.pow_le_pow_right (by omega) (by omega)
                have HP3 := Lib.hid (show cs.length + 1 - (k + 1) = cs.length - k by omega)
                have Hwm := Lib.hid (show w.grownBy (wa.alloc (.cells #[.int .i64 1, .int .i64 2] 3)) none from grown_alloc HB.out _)
                go_loopw [13, 78] (fun s i wq => ∃ q : Nat, q ≤ 2 ∧ i = .int .i64 q ∧ s = .int .i64 (accB W T cs k cov q) ∧ Hid (Known W T cs mb (n + q * (2 ^ (cs.length - k) - 1)) wq) ∧ Hid ((wa.alloc (.cells #[.int .i64 1, .int .i64 2] 3)).grownBy wq (some mb))) (fun _ i _ => 2 - (intOf i).toNat)
                case atStart => exact ⟨0, by omega, rfl, rfl, ⟨n, D, by omega, hmr.alloc _, hgood⟩, grown_refl _ _⟩
                case round =>
                  obtain ⟨q, hq, rfl, rfl, HKn, HQ⟩ := hrel
                  have HG0 := Lib.hid (grown_some Hwm.out HQ.out)
                  have hEq := HE.out.grown HG0.out Hnone.out
                  have HEq := Lib.hid hEq
                  have hacc := acc_le W T cs cov k h36 q
                  by_cases hq2 : q < 2
                  · have e0 := hEq.r0
                    have e1 := hEq.r1
                    have e2 := hEq.r2
                    have hwsz := Hwm.out.size
                    have hmb : mb < w.heap.size := HM.out.lt
                    have ca : wr.cell? ⟨wa.heap.size, q, none⟩ = some (.int .i64 ((q : Int) + 1)) := HQ.out.cell (two_cells wa q hq2) (fun e => by
                      have e' : wa.heap.size = mb := Option.some.inj e
                      have : w.heap.size ≤ wa.heap.size := HB.out.size
                      omega)
                    have Hcovq := Lib.hid (show ∀ (j : Nat) (x : Bool), cov[j]? = some x → wr.cell? ⟨cb, cp + j, none⟩ = some (.bool x) from fun j x hx => HG0.out.cell (HC.out j x hx) (fun e => by
                      cases e
                      have h1 := HC.out j x hx
                      rw [Hnone.out] at h1; cases h1))
                    clear hEq hmb hwsz
                    have hpl := part_le W T cs cov k (q + 1) h36
                    have Hacc := Lib.hid (show accB W T cs k cov (q + 1) = accB W T cs k cov q + partB W T cs k cov (q + 1) from rfl)
                    have Hcast := Lib.hid (show ((q + 1 : Nat) : Int) = (q : Int) + 1 from by omega)
                    by_cases hs : 0 ≤ stepI W T k ((q : Int) + 1)
                    · obtain ⟨t, ht, htl⟩ : ∃ t : Nat, stepI W T k ((q : Int) + 1) = t ∧ t < cs.length := ⟨(stepI W T k ((q : Int) + 1)).toNat, by omega, by rw [← Hcast.out] at hs ⊢; exact Hrange.out k (q + 1) hlt hs⟩
                      have HT := Lib.hid ht
                      have HT' := Lib.hid (show stepI W T k ((q + 1 : Nat) : Int) = t by rw [Hcast.out]; exact ht)
                      have hst := Lib.hid (Hstep.out wr k ((q : Int) + 1) (by omega) (by omega) HEq.out.cells)
                      rw [ht] at hst
                      clear ht hs
                      have csAt : ∀ x, cs.getD t false = x → wr.cell? ⟨sb, sp + t, none⟩ = some (.bool x) := fun x hx => HEq.out.cells t x (by rw [List.getElem?_eq_getElem htl]; simpa [List.getD_eq_getElem?_getD, List.getElem?_eq_getElem htl] using hx)
                      have cvAt : ∀ x, cov.getD t false = x → wr.cell? ⟨cb, cp + t, none⟩ = some (.bool x) := fun x hx => Hcovq.out t x (by rw [List.getElem?_eq_getElem (by omega)]; simpa [List.getD_eq_getElem?_getD, List.getElem?_eq_getElem (show t < cov.length by omega)] using hx)
                      have HcsAt := Lib.hid csAt
                      have HcvAt := Lib.hid cvAt
                      clear csAt cvAt
                      cases hx : cs.getD t false with
                      | false =>
                        have k1 := HcsAt.out false hx
                        have Hpart := Lib.hid (show partB W T cs k cov (q + 1) = 0 from part_no2 HT'.out (by simp only [gB, hx]; rfl))
                        clear hx
                        go_wp2_with (go_at_call 60; refine hst.out.mono ?_; rintro e w4 ⟨rfl, hg4⟩; have HG4 := Lib.hid hg4; have r24 := hg4.cell e2 (by simp); have k14 := hg4.cell k1 (by simp); clear hg4)
                        go_roundw
                        case rel => exact ⟨q + 1, by omega, by go_num, by rw [Hacc.out, Hpart.out]; rfl, HKn.out.keep (Nat.add_le_add_left (Nat.mul_le_mul_right _ (by omega)) _) HG4.out, grown_some2 HQ.out (grown_weak HG4.out)⟩
                        case measure => simp [intOf]; omega
                      | true =>
                        have k1 := HcsAt.out true hx
                        cases hy : cov.getD t false with
                        | true =>
                          have k2 := HcvAt.out true hy
                          have Hpart := Lib.hid (show partB W T cs k cov (q + 1) = 0 from part_no2 HT'.out (by simp only [gB, hy, Bool.not_true, Bool.and_false]))
                          clear hx hy
                          go_wp2_with (go_at_call 60; refine hst.out.mono ?_; rintro e w4 ⟨rfl, hg4⟩; have HG4 := Lib.hid hg4; have r24 := hg4.cell e2 (by simp); have k14 := hg4.cell k1 (by simp); have k24 := hg4.cell k2 (by simp); clear hg4)
                          go_roundw
                          case rel => exact ⟨q + 1, by omega, by go_num, by rw [Hacc.out, Hpart.out]; rfl, HKn.out.keep (Nat.add_le_add_left (Nat.mul_le_mul_right _ (by omega)) _) HG4.out, grown_some2 HQ.out (grown_weak HG4.out)⟩
                          case measure => simp [intOf]; omega
                        | false =>
                          have k2 := HcvAt.out false hy
                          have Hpart := Lib.hid (show partB W T cs k cov (q + 1) = valB W T cs (k + 1) ((cov.set k true).set t true) from part_yes hl htl hlt HT'.out (by simp only [gB, hx, hy]; rfl))
                          have htk := step_ne h1W hq2 HT.out
                          have Hlen2 := Lib.hid (show ((cov.set k true).set t true).length = cs.length by simp [hl])
                          have Hcast2 := Lib.hid (show ((k + 1 : Nat) : Int) = (k : Int) + 1 from by omega)
                          obtain ⟨m, D', hm, hmapr, hgood'⟩ := HKn.out
                          have Hmapr := Lib.hid hmapr
                          have Hgood' := Lib.hid hgood'
                          have Hmnone := Lib.hid (map_none hmapr)
                          have hqp : q * (2 ^ (cs.length - k) - 1) ≤ 1 * (2 ^ (cs.length - k) - 1) := Nat.mul_le_mul_right _ (by omega)
                          have hqp2 : (q + 1) * (2 ^ (cs.length - k) - 1) = q * (2 ^ (cs.length - k) - 1) + (2 ^ (cs.length - k) - 1) := Nat.succ_mul _ _
                          have hyl : valB W T cs (k + 1) ((cov.set k true).set t true) ≤ 68719476736 := by rw [← Hpart.out]; exact hpl
                          have Hm1 := Lib.hid (show m + 2 ^ (cs.length + 1 - (k + 1)) ≤ 2 ^ 40 by rw [HP3.out]; omega)
                          have Hm2 := Lib.hid (show m + (2 ^ (cs.length + 1 - (k + 1)) - 1) ≤ n + (q + 1) * (2 ^ (cs.length - k) - 1) by rw [HP3.out]; omega)
                          clear hx hy hmapr hgood' hqp hqp2 hm hpl
                          generalize hcov' : (cov.set k true).set t true = cov' at *
                          have Hcov' := Lib.hid hcov'
                          clear hcov'
                          generalize hy' : valB W T cs (k + 1) cov' = y at *
                          have Hy := Lib.hid hy'
                          clear hy'
                          go_wp2_with (first | (go_at_call 60; refine hst.out.mono ?_; rintro e w4 ⟨rfl, hg4⟩; have HG4 := Lib.hid hg4; have r24 := hg4.cell e2 (by simp); have k14 := hg4.cell k1 (by simp); have k24 := hg4.cell k2 (by simp); have Hcov4 := Lib.hid (fun (j : Nat) (x : Bool) (hj : cov[j]? = some x) => hg4.cell (Hcovq.out j x hj) (by simp)); clear hg4) | (go_at_call 61; refine (Hclone.out _ cb cp ccap cov (by omega) hl hcap Hcov4.out).mono ?_; rintro e w5 ⟨g', p', cap', rfl, hgs, hcl, hg5, hc5⟩; obtain ⟨xk, xt, c5k, f5k, c5t, f5t, f6, H6⟩ := walk_next (W := W) (T := T) (cs := cs) (t := t) HG4.out hg5 hgs (by omega) (by omega) htk hc5 HEq.out Hmnone.out Hmapr.out; rw [Hcov'.out] at H6; clear hg5 hc5) | (go_at_call 59; refine (next_call (Hself.out (k + 1) g' p' cap' m cov' D' _ (by omega) (by omega) Hlen2.out hcl Hm1.out H6.out.1 H6.out.2.1 H6.out.2.2.1 Hgood'.out) Hcast2.out Hy.out).mono ?_; rintro e w7 ⟨rfl, hkn7, hg7⟩; have HKn7 := Lib.hid hkn7; have HG7 := Lib.hid (grown_some2 (grown_weak (b := mb) H6.out.2.2.2) hg7); clear hkn7 hg7))
                          go_roundw
                          case rel => exact ⟨q + 1, by omega, by go_num, by rw [Hacc.out, Hpart.out]; go_num, HKn7.out.mono Hm2.out, grown_some2 HQ.out HG7.out⟩
                          case measure => simp [intOf]; omega
                    · have Hpart := Lib.hid (show partB W T cs k cov (q + 1) = 0 from part_no (by rw [Hcast.out]; exact hs))
                      have hsn : stepI W T k ((q : Int) + 1) < 0 := by omega
                      clear hs
                      go_wp2_with (go_at_call 60; refine (Hstep.out _ (k : Int) _ (by omega) (by omega) HEq.out.cells).mono ?_; rintro e w4 ⟨rfl, hg4⟩; have HG4 := Lib.hid hg4; clear hg4)
                      go_roundw
                      case rel => exact ⟨q + 1, by omega, by go_num, by rw [Hacc.out, Hpart.out]; rfl, HKn.out.keep (Nat.add_le_add_left (Nat.mul_le_mul_right _ (by omega)) _) HG4.out, grown_some2 HQ.out (grown_weak HG4.out)⟩
                      case measure => simp [intOf]; omega
                  · obtain rfl : q = 2 := by omega
                    have hq2v := acc_val (T := T) h1W hlt HG.out
                    obtain ⟨m, D', hm, hmapr, hgood'⟩ := HKn.out
                    have hwr : wa.grownBy wr (some mb) := grown_some (World.grownBy_alloc wa _ none) HQ.out
                    have hmb : mb < w.heap.size := HM.out.lt
                    have hgw : w.heap.size ≤ g := (HO.out.lt g rfl).1
                    have HO' := HO.out.kept hwr (.inr (by intro e; have e' : g = mb := Option.some.inj e; omega))
                    have hlen := keyP_len (c := k) (cov := cov) (j := j) (by omega)
                    have hcells : ∀ t (ht : t < (keyP k cov j).length), wr.cell? ((⟨g, 0, none⟩ : Addr).add t) = some (.int .u8 ((keyP k cov j)[t].toNat : Int)) := fun t ht => by
                      rw [Addr.add_lit, Nat.zero_add, HO'.cellAt t (by omega)]
                      simp [bytesV, ht]
                    have hcv2 := run_convert_bytes_back (P := Try.prog) wr 22 9 5 ⟨g, 0, none⟩ cap (keyP k cov j) Try.underlying22 Try.underlying5 Try.underlying9 hcells
                    rw [hlen, keyP_all hje, HK.out] at hcv2
                    have ck2 := hEq.k
                    have hput := good_put hmapr.isMap h36 (c := k) (cov := cov) hlt hgood'
                    rw [HK.out, ← hq2v] at hput
                    have Hput := Lib.hid hput
                    have hm2 : m < 2 ^ 40 := by omega
                    have hm3 : m + 1 ≤ n + (2 ^ (cs.length + 1 - c) - 1) := by omega
                    have Hm3 := Lib.hid hm3
                    rw [← Hval.out.trans hq2v.symm] at hacc
                    have Hv2 := Lib.hid (Hval.out.trans hq2v.symm)
                    rw [Hv2.out] at hacc
                    clear hq2v hwr hmb hgw HO' hlen hcells hput hEq hm hgood' hm3 hcv ck hmr
                    go_wp2_with (at_mapUpdate; refine wpList_mapUpdate_own _ rfl _ _ _ 68 rfl 9 3 (Maps.string_keyed Try.underlying9) Try.underlying68 _ mb m _ rfl hmapr (by unfold maxLen; omega) _ _ _ rfl rfl Hkey.out _ [] (plainElem_int Try.underlying3 (WalkArith.wf_i64 (by omega))) ?_; intro w8 hown8 hgrow8; have HO8 := Lib.hid hown8; have HG8 := Lib.hid hgrow8; clear hown8 hgrow8)
                    go_ret
                    exact ⟨by rw [Hv2.out]; rfl, ⟨m + 1, _, Hm3.out, HO8.out, Hput.out⟩, grown_some2 HG0.out HG8.out⟩
    · have hk : k = cs.length := by omega
      have Hv := Lib.hid (show valB W T cs c cov = 1 by
        have := cntF_skip (W := W) (T := T) 0 (G := gB cs cov) (cs.length - c) c (fun i h1 h2 => hfree.out i h1 (by omega))
        rw [Nat.zero_add] at this
        rw [valB, this]; rfl)
      subst hk
      go_wp2
      go_ret
      exact ⟨by rw [Hv.out]; rfl, ⟨n, D, Nat.le_add_right _ _, HM.out, hgood⟩, grown_refl _ _⟩
end Go.Proofs.Dev

namespace Go.Proofs.Dev
open Go.RowKit Go.Maps Go.WideMaps
set_option linter.unusedVariables false
set_option linter.unusedSimpArgs false

theorem i4 : (Try.prog.info? 4).map (fun i => (i.zero, i.size, i.bytes)) = some (some (.bool false), 1, 1) := by kernel_rfl

theorem nil_no (a : Addr) (n c : Nat) (w : World) : (binOp .eql 23 (.slice (some a) n c) (.slice none 0 0)).run Try.prog w = .ok (.bool false) w := by
  rfl

theorem own_cells {w : World} {base e g cap n : Nat} {xs : List Value} (h : w.ownsRow base e 1 (.slice (some ⟨g, 0, none⟩) n cap) n xs) {j : Nat} (hj : j < n) : w.cell? ⟨g, j, none⟩ = xs[j]? ∧ w.frozen? ⟨g, j, none⟩ = false ∧ n ≤ cap := by
  refine ⟨h.cellAt j (by omega), ?_⟩
  rcases h.2 with ⟨h', _⟩ | ⟨g', cap', cur, h', _, hg, hc, _⟩
  · simp at h'
  · simp only [Value.slice.injEq, Option.some.injEq, Addr.mk.injEq, and_true, true_and] at h'
    obtain ⟨rfl, rfl⟩ := h'
    exact ⟨by simp [World.frozen?, hg], hc⟩

set_option maxHeartbeats 1000000 in
set_option maxRecDepth 100000 in
theorem clone_any (N : Nat) (w : World) (cb cp ccap : Nat) (cov : List Bool) (h0 : 0 < N) (hN : N ≤ 36) (hl : cov.length = N) (hcap : N ≤ ccap) (hc : ∀ (j : Nat) (x : Bool), cov[j]? = some x → w.cell? ⟨cb, cp + j, none⟩ = some (.bool x)) :
    Calls Try.prog 61 #[.slice (some ⟨cb, cp, none⟩) N ccap] w (Copied cov N w) := by
  obtain ⟨i0, hi, hz0, hz1, hz2⟩ := info_parts i4
  have HC := Lib.hid hc
  clear hc
  have nno := nil_no
  go_enter Try.func61, Try.ntmps61
  go_wp2_with (at_builtin; refine wpList_append_own_at _ rfl _ _ 23 rfl w.heap.size 4 i0 (.bool false) 1 1 Try.underlying23 hi hz0 hz1 hz2 rfl (by decide) _ _ _ rfl (World.ownsRow_made w #[] 0 (Nat.le_refl _) (by unfold maxLen; omega) rfl) ⟨cb, cp, none⟩ N ccap (cov.map .bool) rfl (by simp [hl]) (by
      intro j u hj
      rw [List.getElem?_map] at hj
      cases hx : cov[j]? with
      | none => rw [hx] at hj; cases hj
      | some x =>
        rw [hx] at hj
        cases hj
        have := HC.out j x hx
        have hlt : cb < w.heap.size := by
          rcases Nat.lt_or_ge cb w.heap.size with h | h
          · exact h
          · simp [World.cell?, Array.getElem?_eq_none h] at this
        rw [Addr.add_lit]
        exact (World.grownBy_alloc w _ none).cell this (by simp)) (by intro u hu; obtain ⟨x, _, rfl⟩ := List.mem_map.1 hu; rfl) (by unfold maxLen; omega) (by omega) (by simp) ?_; intro v2 w2 hown2 hgrow2 hnil2 hat2)
  go_ret
  obtain ⟨N', rfl⟩ : ∃ N', N = N' + 1 := ⟨N - 1, by omega⟩
  rw [Nat.zero_add] at hown2
  obtain ⟨g, cap, rfl⟩ := own_shape hown2
  have hb : w.heap.size ≤ g := (hown2.lt g rfl).1
  refine ⟨g, 0, cap, rfl, hb, (own_cells hown2 (j := 0) (by omega)).2.2, grown_new (World.grownBy_alloc w _ none) hgrow2 (fun b e => by cases e; exact Nat.le_refl _), fun j x hx => ?_⟩
  have hj : j < N' + 1 := by rw [← hl]; exact (List.getElem?_eq_some_iff.1 hx).1
  obtain ⟨h1, h2, _⟩ := own_cells hown2 hj
  rw [Nat.zero_add]
  refine ⟨h1.trans ?_, h2⟩
  simp [List.getElem?_map, hx]
end Go.Proofs.Dev

namespace Go.Proofs.Dev
open Go.RowKit Go.Maps Go.WideMaps
set_option linter.unusedVariables false
set_option linter.unusedSimpArgs false

theorem walk_all {W T : Int} {cs : List Bool} {rb kb wb mb sb sp scap : Nat} (h36 : cs.length ≤ 36) (h1W : 1 ≤ W)
    (hrange : ∀ cell way : Nat, cell < cs.length → 0 ≤ stepI W T cell way → (stepI W T cell way).toNat < cs.length)
    (hstep : ∀ (w : World) (cell way : Int), 0 ≤ cell → cell < cs.length → (∀ (j : Nat) (x : Bool), cs[j]? = some x → w.cell? ⟨sb, sp + j, none⟩ = some (.bool x)) →
      Calls Try.prog 60 #[.agg #[.int .i64 W, .int .i64 T, .slice (some ⟨sb, sp, none⟩) cs.length scap], .int .i64 cell, .int .i64 way] w fun e w' => e = .returned (.int .i64 (stepI W T cell way)) ∧ w.grownBy w' none) :
    ∀ (f c cb cp ccap n : Nat) (cov : List Bool) (D : DataW Unit) (w : World), cs.length - c ≤ f → c ≤ cs.length → cov.length = cs.length → cs.length ≤ ccap → n + 2 ^ (cs.length + 1 - c) ≤ 2 ^ 40 →
      EnvC W T cs rb kb wb mb sb sp scap w → (∀ (j : Nat) (x : Bool), cov[j]? = some x → w.cell? ⟨cb, cp + j, none⟩ = some (.bool x)) → w.ownsMap Try.prog 9 (plainElem Try.prog 3) mb n D → Good W T cs D →
      Calls Try.prog 59 #[.slice (some ⟨cb, cp, none⟩) cs.length ccap, .int .i64 c, .pointer (some ⟨rb, 0, none⟩), .pointer (some ⟨kb, 0, none⟩), .pointer (some ⟨wb, 0, none⟩)] w (Post W T cs cov c mb n w) := by
  intro f
  induction f with
  | zero =>
    intro c cb cp ccap n cov D w hf hc hl hcap hn henv hcov hmap hgood
    exact walk_any h36 h1W hrange hstep (fun w cb cp ccap cov h0 hl hcap hc => clone_any cs.length w cb cp ccap cov h0 h36 hl hcap hc) c cb cp ccap n cov D w hc hl hcap hn henv hcov hmap hgood (fun c' _ _ _ _ _ _ _ h1 h2 => by omega)
  | succ f ih =>
    intro c cb cp ccap n cov D w hf hc hl hcap hn henv hcov hmap hgood
    exact walk_any h36 h1W hrange hstep (fun w cb cp ccap cov h0 hl hcap hc => clone_any cs.length w cb cp ccap cov h0 h36 hl hcap hc) c cb cp ccap n cov D w hc hl hcap hn henv hcov hmap hgood
      (fun c' cb cp ccap n cov D w h1 h2 => ih c' cb cp ccap n cov D w (by omega) h2)

theorem blocks4 {w w2 : World} {A B C E : Obj} (h : ((((w.alloc A).alloc B).alloc C).alloc E).grownBy w2 none) :
    w2.heap[w.heap.size]? = some A ∧ w2.heap[w.heap.size + 1]? = some B ∧ w2.heap[w.heap.size + 1 + 1]? = some C ∧ w2.heap[w.heap.size + 1 + 1 + 1]? = some E ∧ w.grownBy w2 none := by
  have s1 : (w.alloc A).heap.size = w.heap.size + 1 := by simp
  have s2 : ((w.alloc A).alloc B).heap.size = w.heap.size + 1 + 1 := by simp
  have s3 : (((w.alloc A).alloc B).alloc C).heap.size = w.heap.size + 1 + 1 + 1 := by simp
  have s4 : ((((w.alloc A).alloc B).alloc C).alloc E).heap.size = w.heap.size + 1 + 1 + 1 + 1 := by simp
  have k1 := heap_alloc_new w A
  have k2 := heap_alloc_new (w.alloc A) B
  have k3 := heap_alloc_new ((w.alloc A).alloc B) C
  have k4 := heap_alloc_new (((w.alloc A).alloc B).alloc C) E
  rw [s1] at k2
  rw [s2] at k3
  rw [s3] at k4
  refine ⟨?_, ?_, ?_, ?_, grown_new (grown_alloc (grown_alloc (grown_alloc (World.grownBy_alloc w A none) B) C) E) h (fun _ e => by cases e)⟩
  · rw [h.block _ (by omega) (by simp), Below.heap_alloc _ _ _ (by omega), Below.heap_alloc _ _ _ (by omega), Below.heap_alloc _ _ _ (by omega)]; exact k1
  · rw [h.block _ (by omega) (by simp), Below.heap_alloc _ _ _ (by omega), Below.heap_alloc _ _ _ (by omega)]; exact k2
  · rw [h.block _ (by omega) (by simp), Below.heap_alloc _ _ _ (by omega)]; exact k3
  · rw [h.block _ (by omega) (by simp)]; exact k4

theorem made_at (N j : Nat) (h : j < N) : (madeCells (Value.bool false).cells (N * 1)).toList[j]? = some (.bool false) := by
  simp [madeCells, Value.cells, h, Nat.mod_one]

set_option maxHeartbeats 4000000 in
set_option maxRecDepth 100000 in
theorem count_any {W T : Int} {cs : List Bool} {sb sp scap lb lp lcap : Nat} (h36 : cs.length ≤ 36) (h1W : 1 ≤ W) (h0 : 0 < cs.length) (hscap : cs.length ≤ scap) (hlcap : cs.length ≤ lcap)
    (hrange : ∀ cell way : Nat, cell < cs.length → 0 ≤ stepI W T cell way → (stepI W T cell way).toNat < cs.length)
    (hstep : ∀ (w : World) (cell way : Int), 0 ≤ cell → cell < cs.length → (∀ (j : Nat) (x : Bool), cs[j]? = some x → w.cell? ⟨sb, sp + j, none⟩ = some (.bool x)) →
      Calls Try.prog 60 #[.agg #[.int .i64 W, .int .i64 T, .slice (some ⟨sb, sp, none⟩) cs.length scap], .int .i64 cell, .int .i64 way] w fun e w' => e = .returned (.int .i64 (stepI W T cell way)) ∧ w.grownBy w' none)
    (w : World) (hcells : ∀ (j : Nat) (x : Bool), cs[j]? = some x → w.cell? ⟨sb, sp + j, none⟩ = some (.bool x)) (hls : ∀ j, j < cs.length → w.cell? ⟨lb, lp + j, none⟩ = some (.int .i64 0)) :
    Calls Try.prog 39 #[.agg #[.int .i64 W, .int .i64 T, .slice (some ⟨sb, sp, none⟩) cs.length scap], .slice (some ⟨lb, lp, none⟩) cs.length lcap] w
      fun e w' => e = .returned (.int .i64 (valB W T cs 0 (List.replicate cs.length false))) ∧ w.grownBy w' none := by
  obtain ⟨i0, hi, hz0, hz1, hz2⟩ := info_parts i4
  have Hstep := Lib.hid hstep
  have Hrange := Lib.hid hrange
  have HC := Lib.hid hcells
  have HL := Lib.hid hls
  have hmm := @run_makeMap Try.prog
  clear hstep hrange hcells hls
  go_enter Try.func39, Try.ntmps39
  go_wp2_with (at_make; refine wpList_make_full _ rfl _ _ 23 rfl w.heap.size 4 i0 (.bool false) 1 Try.underlying23 hi hz0 hz1 .i64 .i64 (cs.length : Int) (cs.length : Int) cs.length rfl rfl rfl rfl (by rw [hz2]; omega) (by unfold maxLen; omega) (by simp; try omega) ?_; intro w2 hown2 hgrow2)
  obtain ⟨k1, k2, k3, k4, hw2⟩ := blocks4 hgrow2
  have hgz : ((((w.alloc (.cells #[.int .i64 W, .int .i64 T, .slice (some ⟨sb, sp, none⟩) cs.length scap] 25)).alloc (.map #[] 0)).alloc (.cells #[.map (some (w.heap.size + 1))] 68)).alloc (.cells #[fnV w.heap.size (w.heap.size + 1 + 1) (w.heap.size + 1 + 1 + 1)] 69)).heap.size = w.heap.size + 1 + 1 + 1 + 1 := by simp
  rw [hgz] at hown2
  have hsz2 : w.heap.size + 1 + 1 + 1 + 1 ≤ w2.heap.size := by have := hgrow2.size; rw [hgz] at this; exact this
  have Hrow := Lib.hid (show ∀ j, j < cs.length → w2.cell? ⟨w.heap.size + 1 + 1 + 1 + 1, j, none⟩ = some (.bool false) ∧ w2.frozen? ⟨w.heap.size + 1 + 1 + 1 + 1, j, none⟩ = false from fun j hj => by
    obtain ⟨h1, h2, _⟩ := own_cells hown2 hj
    exact ⟨h1.trans (made_at _ _ hj), h2⟩)
  have H1 := Lib.hid k1
  have H2 := Lib.hid k2
  have H3 := Lib.hid k3
  have H4 := Lib.hid k4
  have HW2 := Lib.hid hw2
  clear hgrow2 hown2 k1 k2 k3 k4 hw2 hgz
  go_loopw [18] (fun i wr => ∃ k : Nat, k ≤ cs.length ∧ i = .int .i64 k ∧ Hid (∀ j, j < cs.length → wr.cell? ⟨w.heap.size + 1 + 1 + 1 + 1, j, none⟩ = some (.bool false) ∧ wr.frozen? ⟨w.heap.size + 1 + 1 + 1 + 1, j, none⟩ = false) ∧ Hid (w2.grownBy wr (some (w.heap.size + 1 + 1 + 1 + 1)))) (fun i _ => cs.length - (intOf i).toNat)
  case atStart => exact ⟨0, by omega, rfl, Hrow, grown_refl _ _⟩
  case round =>
    obtain ⟨k, hk, rfl, HR, HG⟩ := hrel
    by_cases hlt : k < cs.length
    · have c1 : wr.cell? ⟨lb, lp + k, none⟩ = some (.int .i64 0) := HG.out.cell (HW2.out.cell (HL.out k hlt) (by simp)) (fun e => by
        have e' : lb = w.heap.size + 1 + 1 + 1 + 1 := Option.some.inj e
        have h1 := HL.out k hlt
        rcases Nat.lt_or_ge lb w.heap.size with h | h
        · omega
        · simp [World.cell?, Array.getElem?_eq_none h] at h1)
      obtain ⟨c2, f2⟩ := HR.out k hlt
      go_wp2
      go_roundw
      case rel => exact ⟨k + 1, by omega, by go_num, (fun j hj => ⟨by
          by_cases e : j = k
          · subst e; exact World.cell?_setCell_same _ _ _ c2
          · rw [World.cell?_setCell_other _ _ _ _ (by intro he; simp at he; try omega)]; exact (HR.out j hj).1, by rw [World.frozen?_setCell]; exact (HR.out j hj).2⟩), by
          refine ⟨HG.out.os, HG.out.tape, HG.out.output, by simpa using HG.out.size, fun i hi hne => (Below.heap_setCell _ _ _ _ (fun e => hne (by rw [e]))).trans (HG.out.block i hi hne)⟩⟩
      case measure => simp [intOf]; omega
    · have hb1 : w.heap.size < w2.heap.size := by omega
      have e1 := (HG.out.block w.heap.size (by omega) (by simp; try omega)).trans H1.out
      have e2 := (HG.out.block (w.heap.size + 1) (by omega) (by simp; try omega)).trans H2.out
      have e3 := (HG.out.block (w.heap.size + 1 + 1) (by omega) (by simp; try omega)).trans H3.out
      have e4 := (HG.out.block (w.heap.size + 1 + 1 + 1) (by omega) (by simp)).trans H4.out
      have HWr := Lib.hid (grown_new HW2.out HG.out (fun i e => by cases e; omega))
      have henv : EnvC W T cs w.heap.size (w.heap.size + 1 + 1) (w.heap.size + 1 + 1 + 1) (w.heap.size + 1) sb sp scap wr :=
        ⟨by simp only [World.cell?, e1]; rfl, by simp only [World.cell?, e1]; rfl, by simp only [World.cell?, e1]; rfl, by simp only [World.cell?, e3]; rfl, by simp only [World.cell?, e4]; rfl, fun j x hx => HWr.out.cell (HC.out j x hx) (by simp)⟩
      have hmap : wr.ownsMap Try.prog 9 (plainElem (H := Unit) Try.prog 3) (w.heap.size + 1) 0 (.map []) := ⟨#[], 0, e2, ⟨by simp, Go.MapKept.stamped_empty 0, by simp⟩, Nat.le_refl _, rfl⟩
      have call := walk_all (rb := w.heap.size) (kb := w.heap.size + 1 + 1) (wb := w.heap.size + 1 + 1 + 1) (mb := w.heap.size + 1) (scap := scap) h36 h1W Hrange.out Hstep.out cs.length 0 (w.heap.size + 1 + 1 + 1 + 1) 0 cs.length 0 (List.replicate cs.length false) (.map []) wr (by omega) (by omega) (by simp) (Nat.le_refl _)
        (by
          rw [Nat.zero_add]
          exact Nat.le_trans (Nat.pow_le_pow_right (by omega) (show cs.length + 1 - 0 ≤ 40 by omega)) (Nat.le_refl _)) henv
        (fun j x hx => by
          have hj : j < cs.length := by have := (List.getElem?_eq_some_iff.1 hx).1; simpa using this
          rw [List.getElem?_replicate, if_pos hj] at hx
          cases hx
          rw [Nat.zero_add]
          exact (HR.out j hj).1) hmap (good_none W T cs)
      have cf := henv.f
      have Hcall := Lib.hid call
      clear e1 e2 e3 e4 henv hmap call
      go_wp2_with (go_at_call 59; refine Hcall.out.mono ?_; rintro e w7 ⟨rfl, hkn7, hg7⟩; have HG7 := Lib.hid hg7; clear hkn7 hg7)
      go_ret
      exact ⟨rfl, grown_new HWr.out HG7.out (fun i e => by cases e; omega)⟩
end Go.Proofs.Dev

namespace Go.Proofs.Dev

end Go.Proofs.Dev

namespace Go.Proofs.Dev

-- 1 parameters, results [.t 2], 9 slots, modes [false]
@[simp] abbrev n_impl_Region_total : Nat := 19

def c_impl_Region_total : ACode :=
  .seq (.reg [⟨(some 1), .box, [.t 0], none⟩,
    ⟨(some 2), .mv, [.c (.v (.int .i64 (0)))], none⟩]) <|
  .seq (.draw (
    .take ⟨(some 4), .fadr 2, [.t 1], none⟩ <|
    .alt ⟨(some 3), .load true 3, [.t 1], none⟩ (
      .alt ⟨(some 5), .load false 1, [.t 4], none⟩ (
        .take ⟨(some 6), .len false, [.t 5], none⟩ <|
        .alt ⟨(some 7), .mksl 1 8 (.v (.int .i64 (0))), [.t 6, .t 6], none⟩ (
          .alt ⟨(some 8), .call 39 [], [.t 3, .t 7], none⟩ (
            .take ⟨(some 2), .mv, [.t 8], none⟩ <|
            .done) <|
          .stop) <|
        .stop) <|
      .stop) <|
    .alt ⟨(some 5), .load false 1, [.t 4], none⟩ (
      .take ⟨(some 6), .len false, [.t 5], none⟩ <|
      .alt ⟨(some 3), .load true 3, [.t 1], none⟩ (
        .alt ⟨(some 7), .mksl 1 8 (.v (.int .i64 (0))), [.t 6, .t 6], none⟩ (
          .alt ⟨(some 8), .call 39 [], [.t 3, .t 7], none⟩ (
            .take ⟨(some 2), .mv, [.t 8], none⟩ <|
            .done) <|
          .stop) <|
        .stop) <|
      .alt ⟨(some 7), .mksl 1 8 (.v (.int .i64 (0))), [.t 6, .t 6], none⟩ (
        .alt ⟨(some 3), .load true 3, [.t 1], none⟩ (
          .alt ⟨(some 8), .call 39 [], [.t 3, .t 7], none⟩ (
            .take ⟨(some 2), .mv, [.t 8], none⟩ <|
            .done) <|
          .stop) <|
        .stop) <|
      .stop) <|
    .stop)) <|
  .ret

theorem k_impl_Region_total : cFn Try.prog n_impl_Region_total 9 [.t 2] c_impl_Region_total := ⟨Try.f19, _, Try.func19, rfl, by kernel_rfl, by kernel_rfl, by kernel_rfl, by kernel_rfl⟩

-- 1 parameters, results [.t 2], 8 slots, modes [false]
@[simp] abbrev n_impl_TilingsMany : Nat := 9

def c_impl_TilingsMany : ACode :=
  .seq (.reg [⟨(some 1), .box, [.t 0], none⟩,
    ⟨(some 2), .mv, [.c (.v (.int .i64 (0)))], none⟩]) <|
  .seq (.seq (.reg [⟨(some 3), .load true 3, [.t 1], none⟩,
    ⟨(some 4), .call 18 [], [.t 3], none⟩,
    ⟨(some 5), .un .not, [.t 4], none⟩]) <|
  .cond (.t 5) (
    .seq (.reg [⟨(some 2), .mv, [.c (.v (.int .i64 (-1)))], none⟩]) <|
    .ret) (
    .skip)) <|
  .seq (.reg [⟨(some 6), .load true 3, [.t 1], none⟩,
    ⟨(some 7), .call 19 [], [.t 6], none⟩,
    ⟨(some 2), .mv, [.t 7], none⟩]) <|
  .ret

theorem k_impl_TilingsMany : cFn Try.prog n_impl_TilingsMany 8 [.t 2] c_impl_TilingsMany := ⟨Try.f9, _, Try.func9, rfl, by kernel_rfl, by kernel_rfl, by kernel_rfl, by kernel_rfl⟩

-- 1 parameters, results [.t 2], 69 slots, modes [false]
@[simp] abbrev n_laws_FnSolutionsMany : Nat := 3
def c_laws_FnSolutionsMany_L0 : ACode :=
  .seq (.seq (.reg [⟨(some 32), .mv, [.t 7], none⟩,
    ⟨(some 33), .mv, [.t 4], none⟩,
    ⟨(some 34), .len false, [.t 33], none⟩,
    ⟨(some 35), .bin .lss 0, [.t 32, .t 34], none⟩]) <|
  .cond (.t 35) (
    .skip) (
    .exit 0)) <|
  .seq (.block 1 (
    .reg [⟨(some 38), .mv, [.t 6], none⟩,
      ⟨(some 39), .mv, [.t 4], none⟩,
      ⟨(some 40), .mv, [.t 7], none⟩,
      ⟨(some 41), .iadr 1, [.t 39, .t 40], none⟩,
      ⟨(some 42), .load false 1, [.t 41], none⟩,
      ⟨(some 43), .mnx true, [.t 42, .c (.v (.int .i64 (0)))], none⟩,
      ⟨(some 44), .bsl 1, [.t 43], none⟩,
      ⟨(some 45), .app 1 8 true, [.t 38, .t 44], none⟩,
      ⟨(some 6), .mv, [.t 45], none⟩])) <|
  .reg [⟨(some 36), .mv, [.t 7], none⟩,
    ⟨(some 37), .bin .add 0, [.t 36, .c (.v (.int .i64 (1)))], none⟩,
    ⟨(some 7), .mv, [.t 37], none⟩]

def c_laws_FnSolutionsMany : ACode :=
  .seq (.reg [⟨(some 2), .mv, [.c (.v (.bool false))], none⟩]) <|
  .seq (.seq (.reg [⟨(some 8), .mv, [.t 0], none⟩,
    ⟨(some 9), .len false, [.t 8], none⟩,
    ⟨(some 10), .bin .gtr 0, [.t 9, .c (.v (.int .i64 (1048576)))], none⟩]) <|
  .cond (.t 10) (
    .seq (.reg [⟨(some 2), .mv, [.c (.v (.bool true))], none⟩]) <|
    .ret) (
    .skip)) <|
  .seq (.reg [⟨(some 12), .mv, [.t 0], none⟩,
    ⟨(some 13), .call 4 [], [.t 12], none⟩,
    ⟨(some 11), .mv, [.t 13], none⟩,
    ⟨(some 14), .extr 0, [.t 11], none⟩,
    ⟨(some 15), .extr 1, [.t 11], none⟩,
    ⟨(some 3), .alloc [.v (.int .i64 (0)), .v (.int .i64 (0)), .os 1 []], [], none⟩,
    ⟨none, .store 3, [.t 3, .t 14], none⟩,
    ⟨(some 4), .mv, [.t 15], none⟩]) <|
  .seq (.reg [⟨(some 16), .load true 3, [.t 3], none⟩,
    ⟨(some 17), .mv, [.t 4], none⟩,
    ⟨(some 18), .call 5 [], [.t 16, .t 17], none⟩,
    ⟨(some 5), .mv, [.t 18], none⟩]) <|
  .seq (.seq (.reg [⟨(some 19), .mv, [.t 5], none⟩,
    ⟨(some 20), .load true 3, [.t 3], none⟩,
    ⟨(some 21), .mv, [.t 4], none⟩,
    ⟨(some 22), .call 6 [], [.t 20, .t 21], none⟩,
    ⟨(some 23), .bin .neq 0, [.t 19, .t 22], none⟩]) <|
  .cond (.t 23) (
    .seq (.reg [⟨(some 2), .mv, [.c (.v (.bool false))], none⟩]) <|
    .ret) (
    .skip)) <|
  .seq (.seq (.reg [⟨(some 24), .mv, [.t 5], none⟩,
    ⟨(some 25), .bin .lss 0, [.t 24, .c (.v (.int .i64 (0)))], none⟩]) <|
  .cond (.t 25) (
    .seq (.reg [⟨(some 26), .mv, [.t 5], none⟩,
      ⟨(some 27), .bin .eql 0, [.t 26, .c (.v (.int .i64 (-1)))], none⟩,
      ⟨(some 28), .mv, [.t 27], none⟩,
      ⟨(some 29), .call 7 [], [], (some (28, true))⟩,
      ⟨(some 30), .pick, [.t 28, .t 29, .c (.v (.bool false))], none⟩,
      ⟨(some 2), .mv, [.t 30], none⟩]) <|
    .ret) (
    .skip)) <|
  .seq (.reg [⟨(some 31), .bsl 1, [], none⟩,
    ⟨(some 6), .mv, [.t 31], none⟩]) <|
  .seq (.seq (.reg [⟨(some 7), .mv, [.c (.v (.int .i64 (0)))], none⟩]) <|
  .block 0 (
    .loop [(4, 1), (6, 1)] [3, 4, 5, 6, 7] c_laws_FnSolutionsMany_L0)) <|
  .seq (.reg [⟨(some 46), .mv, [.t 5], none⟩,
    ⟨(some 47), .load true 3, [.t 3], none⟩,
    ⟨(some 48), .mv, [.t 4], none⟩,
    ⟨(some 49), .call 8 [], [.t 47, .t 48], none⟩,
    ⟨(some 50), .len false, [.t 49], none⟩,
    ⟨(some 51), .bin .eql 0, [.t 46, .t 50], none⟩,
    ⟨(some 52), .mv, [.t 51], none⟩,
    ⟨(some 53), .mv, [.t 5], (some (52, true))⟩,
    ⟨(some 54), .load true 3, [.t 3], (some (52, true))⟩,
    ⟨(some 55), .call 9 [], [.t 54], (some (52, true))⟩,
    ⟨(some 56), .bin .leq 0, [.t 53, .t 55], (some (52, true))⟩,
    ⟨(some 57), .pick, [.t 52, .t 56, .c (.v (.bool false))], none⟩,
    ⟨(some 58), .mv, [.t 57], none⟩,
    ⟨(some 59), .load true 3, [.t 3], (some (58, true))⟩,
    ⟨(some 60), .call 10 [], [.t 59], (some (58, true))⟩,
    ⟨(some 61), .bin .leq 0, [.t 60, .c (.v (.int .i64 (2)))], (some (58, true))⟩,
    ⟨(some 62), .mv, [.t 61], (some (58, true))⟩,
    ⟨(some 63), .load true 3, [.t 3], (some (62, false))⟩,
    ⟨(some 64), .mv, [.t 6], (some (62, false))⟩,
    ⟨(some 65), .call 5 [], [.t 63, .t 64], (some (62, false))⟩,
    ⟨(some 66), .bin .eql 0, [.t 65, .c (.v (.int .i64 (0)))], (some (62, false))⟩,
    ⟨(some 67), .pick, [.t 62, .c (.v (.bool true)), .t 66], (some (58, true))⟩,
    ⟨(some 68), .pick, [.t 58, .t 67, .c (.v (.bool false))], none⟩,
    ⟨(some 2), .mv, [.t 68], none⟩]) <|
  .ret

theorem k_laws_FnSolutionsMany : cFn Try.prog n_laws_FnSolutionsMany 69 [.t 2] c_laws_FnSolutionsMany := ⟨Try.f3, _, Try.func3, rfl, by kernel_rfl, by kernel_rfl, by kernel_rfl, by kernel_rfl⟩

end Go.Proofs.Dev

namespace Go.Proofs.Dev
set_option linter.unusedSimpArgs false
set_option maxRecDepth 100000

/-- Who takes ownership: each of the list and of the closure, the closure of all. -/
@[simp] def md7 (f : Nat) : List Bool := if f = 34 then [false, true, true] else if f = 999999 then [true, true] else md0 f

end Go.Proofs.Dev

namespace Go.Proofs.Dev
open Go.RowKit
set_option linter.unusedVariables false
set_option linter.unusedSimpArgs false
set_option maxRecDepth 100000

theorem kept_of_grown {w w' : World} (h : w.grownBy w' none) : Kept w.heap.size [] w w' := by
  refine ⟨h.os, h.tape, h.output, h.size, fun k hk _ => h.block k hk (by simp), ?_⟩
  intro b p k hr j hj
  obtain ⟨⟨u, hu⟩, hf⟩ := hr j hj
  have hb := h.block b (block_lt_of_cell hu) (by simp)
  exact ⟨⟨u, by rw [World.cell?_of_block (w := w) (a := ⟨b, p + j, none⟩) hb]; exact hu⟩, by rw [World.frozen?_of_block (w := w) (a := ⟨b, p + j, none⟩) hb]; exact hf⟩
theorem grown_of_kept {w w' : World} (h : Kept w.heap.size [] w w') : w.grownBy w' none := ⟨h.os, h.tape, h.output, h.size, fun k hk _ => h.block k hk (by simp)⟩

theorem RL_bools_us {C : Ctx} : ∀ {xs : List Bool} {S : List Nat} {us : List Value}, RL C (bools xs) S us → S = [] ∧ us = xs.map .bool
  | [], S, us, h => by
    have h' : RL C [] S us := h
    rw [RL] at h'
    simpa using h'
  | x :: xs, S, us, h => by
    have h' : RL C (.v (.bool x) :: bools xs) S us := h
    rw [RL] at h'
    obtain ⟨S1, S2, u, us', rfl, rfl, h1, h2⟩ := h'
    rw [R] at h1
    obtain ⟨rfl, rfl⟩ := h1
    obtain ⟨rfl, rfl⟩ := RL_bools_us h2
    exact ⟨rfl, rfl⟩
theorem RL_bools_mk {C : Ctx} : ∀ (xs : List Bool), RL C (bools xs) [] (xs.map .bool)
  | [] => by show RL C [] [] []; rw [RL]; exact ⟨rfl, rfl⟩
  | x :: xs => by
    show RL C (.v (.bool x) :: bools xs) [] (.bool x :: xs.map .bool)
    rw [RL]
    exact ⟨[], [], _, _, rfl, rfl, by rw [R]; exact ⟨rfl, rfl⟩, RL_bools_mk xs⟩
theorem flat_bools : ∀ xs : List Bool, flatE (bools xs) = bools xs
  | [] => rfl
  | x :: xs => by
    show cellsE (.v (.bool x)) ++ flatE (bools xs) = .v (.bool x) :: bools xs
    rw [flat_bools xs]; rfl
theorem flat_ints : ∀ xs : List Int, flatE (ints xs) = ints xs
  | [] => rfl
  | x :: xs => by
    show cellsE (.v (.int .i64 x)) ++ flatE (ints xs) = .v (.int .i64 x) :: ints xs
    rw [flat_ints xs]; rfl
theorem step_calls {W T : Int} {cs : List Bool} {sb sp scap : Nat} (hr : regB W T cs = true) (h0 : 0 < cs.length) (hcap : cs.length ≤ scap) (w : World) (cell way : Int) (c0 : 0 ≤ cell) (c1 : cell < cs.length)
    (hc : ∀ (j : Nat) (x : Bool), cs[j]? = some x → w.cell? ⟨sb, sp + j, none⟩ = some (.bool x)) :
    Calls Try.prog 60 #[.agg #[.int .i64 W, .int .i64 T, .slice (some ⟨sb, sp, none⟩) cs.length scap], .int .i64 cell, .int .i64 way] w fun e w' => e = .returned (.int .i64 (stepI W T cell way)) ∧ w.grownBy w' none := by
  have hb : sb < w.heap.size := block_lt_of_cell (a := ⟨sb, sp + 0, none⟩) (hc 0 cs[0] (List.getElem?_eq_getElem h0))
  have hrl : RL (cin w [] fun _ => False) [.agg [.v (.int .i64 W), .v (.int .i64 T), .sl 1 1 (bools cs)], .v (.int .i64 cell), .v (.int .i64 way)] [] [.agg #[.int .i64 W, .int .i64 T, .slice (some ⟨sb, sp, none⟩) cs.length scap], .int .i64 cell, .int .i64 way] := by
    rw [RL]
    refine ⟨[], [], _, _, rfl, rfl, ?_, by rw [RL]; exact ⟨[], [], _, _, rfl, rfl, by rw [R]; exact ⟨rfl, rfl⟩, by rw [RL]; exact ⟨[], [], _, _, rfl, rfl, by rw [R]; exact ⟨rfl, rfl⟩, by rw [RL]; exact ⟨rfl, rfl⟩⟩⟩⟩
    rw [R]
    refine ⟨[_, _, _], rfl, ?_⟩
    rw [RL]; refine ⟨[], [], _, _, rfl, rfl, by rw [R]; exact ⟨rfl, rfl⟩, ?_⟩
    rw [RL]; refine ⟨[], [], _, _, rfl, rfl, by rw [R]; exact ⟨rfl, rfl⟩, ?_⟩
    rw [RL]; refine ⟨[], [], _, _, rfl, rfl, ?_, by rw [RL]; exact ⟨rfl, rfl⟩⟩
    rw [R]
    refine ⟨rfl, some ⟨sb, sp, none⟩, scap, by simp, by simpa using hcap, .inr ⟨sb, sp, cs.map .bool, rfl, hb, by simp [cin], ?_, sized_bools cs, by rw [flat_bools]; exact RL_bools_mk cs⟩⟩
    intro j u hj
    rw [List.getElem?_map] at hj
    cases hx : cs[j]? with
    | none => rw [hx] at hj; cases hj
    | some x =>
      rw [hx] at hj
      cases hj
      exact hc j x hx
  refine (s_impl_Region_step W T cs cell way hr c0 c1 w (fun _ => False) _ [] hrl (by simp) (by simp) (by simp)).mono ?_
  rintro e w' ⟨v, S', rfl, hrl2, _, _, hk⟩
  rw [RL] at hrl2
  obtain ⟨S1, S2, u, us', _, huv, h1, _⟩ := hrl2
  cases huv
  rw [R] at h1
  obtain ⟨_, rfl⟩ := h1
  exact ⟨rfl, grown_of_kept hk⟩

theorem gB_bare (cs : List Bool) : gB cs (List.replicate cs.length false) = bareB cs (noneL cs) := by
  funext i
  simp only [gB, bareB, ati_none, atb]
  by_cases h : i < cs.length
  · simp [List.getD_eq_getElem?_getD, List.getElem?_replicate, h]
  · simp [List.getD_eq_getElem?_getD, List.getElem?_eq_none (show cs.length ≤ i by omega)]

theorem val_tiles {W T : Int} {cs : List Bool} (hr : regB W T cs = true) : valB W T cs 0 (List.replicate cs.length false) = (tilesI W T cs).length := by
  have hz : zeros (noneL cs) ≤ cs.length := by have := zeros_le (noneL cs); simp [noneL] at this ⊢; omega
  rw [valB, gB_bare, Nat.sub_zero, cnt_allT hr cs.length (noneL cs) hz (lays_none W T cs), tilesI, if_pos hr]

@[simp] abbrev n_impl_Region_count : Nat := 39
theorem s_impl_Region_count (W T : Int) (cs : List Bool) (hr : regB W T cs = true) :
    SoundAt Try.prog n_impl_Region_count [.agg [.v (.int .i64 W), .v (.int .i64 T), .sl 1 1 (bools cs)], .sl 1 1 (ints (noneL cs))] (.v (.int .i64 ((tilesI W T cs).length : Nat))) [.bot, .bot] := by
  obtain ⟨w1, w2, t1, t2, l1, _⟩ := regB_W hr
  have h36 := regB_len hr
  have h0 : 0 < cs.length := by
    have : 1 * 1 ≤ W * T := Int.mul_le_mul w1 t1 (by omega) (by omega)
    omega
  intro w forb us S hrl hnd hlt hforb
  rw [RL] at hrl
  obtain ⟨S1, S2, u1, us1, rfl, rfl, hA, hB⟩ := hrl
  rw [RL] at hB
  obtain ⟨S3, S4, u2, us2, rfl, rfl, hL, hN⟩ := hB
  rw [RL] at hN
  obtain ⟨rfl, rfl⟩ := hN
  rw [R] at hA
  obtain ⟨av, rfl, hA⟩ := hA
  rw [RL] at hA
  obtain ⟨_, _, a1, as1, rfl, rfl, ha1, hA⟩ := hA
  rw [RL] at hA
  obtain ⟨_, _, a2, as2, rfl, rfl, ha2, hA⟩ := hA
  rw [RL] at hA
  obtain ⟨_, _, a3, as3, rfl, rfl, ha3, hA⟩ := hA
  rw [RL] at hA
  obtain ⟨rfl, rfl⟩ := hA
  rw [R] at ha1 ha2
  rw [R] at ha3
  obtain ⟨rfl, rfl⟩ := ha1
  obtain ⟨rfl, rfl⟩ := ha2
  obtain ⟨rfl, a, cap, rfl, hcap, h3⟩ := ha3
  rw [R] at hL
  obtain ⟨rfl, la, lcap, rfl, hlcap, h4⟩ := hL
  rw [bools_length] at hcap ⊢
  have hnl : (noneL cs).length = cs.length := by simp [noneL]
  rw [ints_length, hnl] at hlcap ⊢
  rcases h3 with h3 | ⟨b, p, vs, rfl, hb, _, hc, _, hv⟩
  · have : (bools cs).length = 0 := by rw [h3]; rfl
    rw [bools_length] at this; omega
  rcases h4 with h4 | ⟨lb, lp, ls, rfl, hlb, _, hlc, _, hlv⟩
  · have : (ints (noneL cs)).length = 0 := by rw [h4]; rfl
    rw [ints_length, hnl] at this; omega
  rw [flat_bools] at hv
  obtain ⟨_, rfl⟩ := RL_bools_us hv
  rw [flat_ints] at hlv
  obtain ⟨_, rfl⟩ := RL_ints_inv hlv
  refine (count_any (W := W) (T := T) (cs := cs) (sb := b) (sp := p) (scap := cap) (lb := lb) (lp := lp) (lcap := lcap) h36 w1 h0 hcap hlcap
    (fun cell way hcell hst => by
      have := step_back (W := W) (T := T) (k := cell) (way := way) w1 (by omega) (by omega) hst
      omega)
    (fun w cell way c0 c1 hcs => step_calls hr h0 hcap w cell way c0 c1 hcs) w
    (fun j x hx => hc j _ (by rw [List.getElem?_map, hx]; rfl))
    (fun j hj => hlc j _ (by rw [List.getElem?_map, noneL, List.getElem?_replicate, if_pos hj]; rfl))).mono ?_
  rintro e w' ⟨rfl, hg⟩
  rw [val_tiles hr]
  refine ⟨_, [], rfl, ?_, by simp, by simp, kept_of_grown hg⟩
  rw [RL]; refine ⟨[], [], _, _, rfl, rfl, by rw [R]; exact ⟨rfl, rfl⟩, ?_⟩
  rw [RL]; refine ⟨[], [], _, _, rfl, rfl, by rw [R], ?_⟩
  rw [RL]; exact ⟨[], [], _, _, rfl, rfl, by rw [R], by rw [RL]; exact ⟨rfl, rfl⟩⟩

theorem s_impl_Region_total (W T : Int) (cs : List Bool) (hr : regB W T cs = true) :
    SoundAt Try.prog n_impl_Region_total [.agg [.v (.int .i64 W), .v (.int .i64 T), .sl 1 1 (bools cs)]] (.v (.int .i64 ((tilesI W T cs).length : Nat))) [.bot] := by
  refine fn_ok (md := md0) (ms := [false]) k_impl_Region_total (by simp) ?_
  have h36 := regB_len hr
  have en : ints (List.replicate cs.length 0) = ints (noneL cs) := rfl
  have hnl : (noneL cs).length = cs.length := by simp [noneL]
  have htk : (ints (noneL cs)).take cs.length = ints (noneL cs) := List.take_of_length_le (by simp [noneL])
  simp [c_impl_Region_total, ints_rep]
  (repeat' first | assumption | omega | apply And.intro) <;>
  · rw [en]
    refine call_on (s_impl_Region_count W T cs hr) ?_
    simp [hnl, htk]

theorem s_impl_TilingsMany (W T : Int) (cs : List Bool) (hb : cs.length < 2 ^ 40) :
    SoundAt Try.prog n_impl_TilingsMany [.agg [.v (.int .i64 W), .v (.int .i64 T), .sl 1 1 (bools cs)]] (.v (.int .i64 (if regB W T cs = true then ((tilesI W T cs).length : Nat) else -1))) [.bot] := by
  refine fn_ok (md := md0) (ms := [false]) k_impl_TilingsMany (by simp) ?_
  simp [c_impl_TilingsMany]
  refine call_on (s_impl_RegionValid W T cs hb) ?_
  cases hr : regB W T cs with
  | false => simp
  | true =>
    simp
    refine call_on (s_impl_Region_total W T cs hr) ?_
    simp
end Go.Proofs.Dev

namespace Go.Proofs.Dev
set_option linter.unusedSimpArgs false
set_option maxRecDepth 100000

end Go.Proofs.Dev
