/- Contracts of the functions of the program over slots and rows, each proved against the program itself; no condition beyond those that each theorem names. -/
import Derived.Test.YtfkmfobbgoflgaaGreatDoorAA
import Derived.IntWalk
import Derived.Laws.StructEq
set_option linter.unusedSimpArgs false
set_option linter.unusedVariables false
set_option maxRecDepth 100000
namespace Go.Proofs.Dev
def okE : AV → Bool
 | .agg cs => aj cs
 | a => R2 a
theorem Ht {C : Ctx} {a : AV} {S : List Nat} {u : Value} (h : R C a S u) (ho : okE a = true) :
  RL C (Ab a) S u.cells.toList ∧ (∀ x ∈ u.cells.toList, x.oneCell' = true) := by
 have one : okE a = R2 a → Ab a = [a] → RL C (Ab a) S u.cells.toList ∧ (∀ x ∈ u.cells.toList, x.oneCell' = true) := by
  intro h1 h2
  rw [h1] at ho
  have := RA h ho
  rw [br this, h2]
  refine ⟨by simp only [RL]; exact ⟨S, [], u, [], by simp, rfl, h, rfl, rfl⟩, ?_⟩
  intro x hx; simp at hx; rw [hx]; exact this
 cases a with
 | agg xs =>
   rw [R] at h
   obtain ⟨us, rfl, hrl⟩ := h
   exact ⟨by simpa [Value.cells, Ab] using hrl, by simpa [Value.cells] using TJ hrl ho⟩
 | _ => exact one rfl rfl
structure Wrote (b p n : Nat) (w w' : World) : Prop where
 os : w'.os = w.os
 tape : w'.tape = w.tape
 output : w'.output = w.output
 size : w'.heap.size = w.heap.size
 block : ∀ k, k ≠ b → w'.heap[k]? = w.heap[k]?
 room : ∀ b p k, Ns w b p k → Ns w' b p k
 other : ∀ q, q < p ∨ p + n ≤ q → w'.cell? ⟨b, q, none⟩ = w.cell? ⟨b, q, none⟩
theorem Wrote.refl (b p n : Nat) (w : World) : Wrote b p n w w := ⟨rfl, rfl, rfl, rfl, fun _ _ => rfl, fun _ _ _ h => h, fun _ _ => rfl⟩
theorem WR (w : World) (b p : Nat) (v : Value) : Wrote b p 1 w (w.setCell ⟨b, p, none⟩ v) := by
 refine ⟨rfl, rfl, rfl, World.size_setCell .., ?_, ?_, ?_⟩
 ·intro k hk
  simp only [World.setCell, Array.getElem?_modify]
  rw [if_neg (by intro e; exact hk e.symm)]
 ·intro b' p' k hr j hj
  obtain ⟨⟨x, hx⟩, hf⟩ := hr j hj
  refine ⟨?_, by rw [World.frozen?_setCell]; exact hf⟩
  by_cases e : (⟨b, p, none⟩ : Addr) = ⟨b', p' + j, none⟩
  ·rw [← e] at hx ⊢; exact ⟨v, World.cell?_setCell_same _ _ _ hx⟩
  ·exact ⟨x, by rw [World.cell?_setCell_other _ _ _ _ e]; exact hx⟩
 ·intro q hq
  refine World.cell?_setCell_other _ _ _ _ ?_
  intro e
  have : p = q := by injection e
  omega
theorem Wrote.trans {b p n m : Nat} {w w' w'' : World} (h : Wrote b p n w w') (k : Wrote b (p + n) m w' w'') : Wrote b p (n + m) w w'' :=
 ⟨k.os.trans h.os, k.tape.trans h.tape, k.output.trans h.output, k.size.trans h.size, fun i hi => (k.block i hi).trans (h.block i hi),
  fun _ _ _ hr => k.room _ _ _ (h.room _ _ _ hr), fun q hq => (k.other q (by omega)).trans (h.other q (by omega))⟩
theorem FQ {P : Program} : ∀ (vs : List Value) (w : World) (b p i : Nat), Ns w b (p + i) vs.length → (∀ x ∈ vs, x.oneCell' = true) →
  ∃ w', (storeCells ⟨b, p, none⟩ vs i).run P w = .ok () w' ∧ Wrote b (p + i) vs.length w w' ∧ Cells w' b (p + i) vs
 | [], w, b, p, i, _, _ => ⟨w, by simp [storeCells], Wrote.refl _ _ _ _, Cells.nil⟩
 | v :: vs, w, b, p, i, hr, ho => by
   obtain ⟨⟨x, hx⟩, hf⟩ := hr 0 (by simp)
   simp only [Nat.add_zero] at hx hf
   have hw1 := WR w b (p + i) v
   obtain ⟨w', h1, h2, h3⟩ := FQ (P := P) vs (w.setCell ⟨b, p + i, none⟩ v) b p (i + 1) (by
    refine hw1.room _ _ _ ?_
    intro j hj
    have := hr (j + 1) (by simp; omega)
    rwa [show p + i + (j + 1) = p + (i + 1) + j from by omega] at this) (fun y hy => ho y (by simp [hy]))
   have e : p + (i + 1) = p + i + 1 := by omega
   rw [e] at h2 h3
   refine ⟨w', ?_, ?_, ?_⟩
   ·simp only [storeCells, Sem.run_bind, CL]
    rw [run_store P w ⟨b, p + i, none⟩ v .plain (ho v (by simp)), hx]
    simp only [hf, Bool.false_eq_true, if_false, Result.andThen_ok]
    exact h1
   ·have := hw1.trans h2
    rwa [show 1 + vs.length = (v :: vs).length from by simp; omega] at this
   ·intro j u hj
    cases j with
    | zero =>
      simp at hj; subst hj
      rw [Nat.add_zero, h2.other _ (by omega)]
      exact World.cell?_setCell_same _ _ _ hx
    | succ j =>
      have := h3 j u (by simpa using hj)
      rwa [show p + i + 1 + j = p + i + (j + 1) from by omega] at this
def setL {α : Type} (xs : List α) (o : Nat) : List α → List α
 | [] => xs
 | y :: ys => setL (xs.set o y) (o + 1) ys
theorem Ov {α : Type} : ∀ (ys xs : List α) (o : Nat), (setL xs o ys).length = xs.length
 | [], xs, o => rfl
 | y :: ys, xs, o => by rw [setL, Ov ys]; simp
theorem PO {α : Type} : ∀ (ys xs : List α) (o j : Nat), o + ys.length ≤ xs.length → (setL xs o ys)[j]? = if o ≤ j ∧ j < o + ys.length then ys[j - o]? else xs[j]?
 | [], xs, o, j, _ => by
   rw [setL, if_neg (by simp only [List.length_nil]; omega)]
 | y :: ys, xs, o, j, h => by
   have hl : o + 1 + ys.length ≤ (xs.set o y).length := by simp at h ⊢; omega
   rw [setL, PO ys _ _ _ hl, List.getElem?_set]
   simp only [List.length_cons] at h ⊢
   by_cases h1 : o = j
   ·subst h1
    rw [if_neg (by omega), if_pos rfl, if_pos (by omega), if_pos (by omega)]; simp
   ·by_cases h2 : o + 1 ≤ j ∧ j < o + 1 + ys.length
    ·rw [if_pos h2, if_pos (by omega), show j - o = (j - (o + 1)) + 1 from by omega]; simp
    ·rw [if_neg h2, if_neg h1, if_neg (by omega)]
theorem Cells.setL {w w' : World} {b p o : Nat} {us vs : List Value} (h : Cells w b p us) (ho : o + vs.length ≤ us.length) (h' : Cells w' b (p + o) vs)
  (hw : Wrote b (p + o) vs.length w w') : Cells w' b p (setL us o vs) := fun j u hj => by
 rw [PO _ _ _ _ ho] at hj
 split at hj
 ·rename_i hc
  have := h' (j - o) u hj
  rwa [show p + o + (j - o) = p + j from by omega] at this
 ·rw [hw.other _ (by omega)]; exact h j u hj
theorem RL.setL {C : Ctx} : ∀ {cx cs : List AV} {o : Nat} {us vs : List Value}, RL C cs [] us → RL C cx [] vs → o + cx.length ≤ cs.length → RL C (setL cs o cx) [] (setL us o vs)
 | [], cs, o, us, vs, h, h', _ => by rw [RL] at h'; obtain ⟨_, rfl⟩ := h'; exact h
 | c :: cx, cs, o, us, vs, h, h', ho => by
   rw [RL] at h'
   obtain ⟨S1, S2, u, us', hS, rfl, h1, h2⟩ := h'
   obtain ⟨rfl, rfl⟩ : S1 = [] ∧ S2 = [] := by simpa using hS.symm
   simp only [List.length_cons] at ho
   have hlt : o < cs.length := by omega
   obtain ⟨T1, T2, T3, hT, h3⟩ := h.set (i := o) (a := cs[o]) (by simp [hlt]) h1
   obtain ⟨rfl, rfl, rfl⟩ : T1 = [] ∧ T2 = [] ∧ T3 = [] := by simpa using hT.symm
   exact RL.setL (o := o + 1) h3 h2 (by simp; omega)
def jz : List AV → Bool
 | [] => true
 | .v _ :: as => jz as
 | _ :: _ => false
theorem Xm {C : Ctx} : ∀ {as : List AV} {S : List Nat} {us : List Value}, RL C as S us → jz as = true → S = []
 | [], S, us, h, _ => by rw [RL] at h; exact h.1
 | a :: as, S, us, h, ha => by
   cases a <;> first | (simp [jz] at ha; done) | skip
   rw [RL] at h
   obtain ⟨S1, S2, u, us', rfl, rfl, h1, h2⟩ := h
   rw [R] at h1
   rw [h1.1, Xm h2 (by simpa [jz] using ha)]; rfl
theorem Wrote.mono {b p n q m : Nat} {w w' : World} (h : Wrote b p n w w') (h1 : q ≤ p) (h2 : p + n ≤ q + m) : Wrote b q m w w' :=
 ⟨h.os, h.tape, h.output, h.size, h.block, h.room, fun r hr => h.other r (by omega)⟩
def ast (H : AH) (k : Nat) (addr x : AV) : Option AH :=
 if okE x && (Ab x).length == k then
  match addr with
  | .lp sz id i o => match H[id]? with
    | some (some (.box cs)) => if i = 0 ∧ o + k ≤ cs.length then some (H.set id (some (.box (setL cs o (Ab x))))) else none
    | some (some (.arr sz' es)) => if sz' = sz ∧ i < es.length then
      (if o = 0 ∧ k = sz then
       match fz H x with
       | some (x', ks) => if ks.Nodup ∧ id ∉ ks ∧ okE x' = true ∧ (Ab x').length = sz then some ((AG ks H).set id (some (.arr sz (es.set i x')))) else none
       | none => none
      else match es[i]?, fz H x with
       | some (.agg cs), some (x', []) => if o + k ≤ cs.length ∧ okE x' = true ∧ (Ab x').length = k ∧ jz cs = true then some (H.set id (some (.arr sz (es.set i (.agg (setL cs o (Ab x'))))))) else none
       | _, _ => none)
      else none
    | _ => none
  | _ => none
 else none
section
variable {P : Program} {g : Env} {T : List AV} {H : AH} {io : Nat → Option (Nat × Nat)} {B : Nat → List Nat} {tmps : Array Value} {w : World}
theorem TK (H : AH) : AG [] H = H := rfl
theorem WS {α : Type} (es : List α) (i : Nat) (e : α) (h : i < es.length) : es.set i e = es.take i ++ e :: es.drop (i + 1) := by
 rw [List.set_eq_take_append_cons_drop, if_pos h]
theorem Rel.writeE (h : Rel g T H io B tmps w) {id b p sz i : Nat} {es : List AV} {us : List Value} {S : List Nat} (hl : Live H id (.arr sz es)) (hio : io id = some (b, p)) (hB : B id = b :: S) (hb : b < w.heap.size)
  (hroom : Ns w b p (es.length * sz)) (hc : Cells w b p us) (hsz : Sized sz es) (hr : RL ((ctx g H io B w).at 0) (Ak es) S us) {e : AV} (he : es[i]? = some e)
  (ks : List Nat) (hid : id ∉ ks) {e' : AV} {vs : List Value} {Se : List Nat} (hsz' : (Ab e').length = sz) (hre : RL ((ctx g H io B w).at 0) (Ab e') Se vs)
  (hSe : ∀ S1 S2 S3, S = S1 ++ (S2 ++ S3) → RL ((ctx g H io B w).at 0) (Ab e) S2 ((us.drop (i * sz)).take sz) → (b :: (S1 ++ (Se ++ S3))).Nodup ∧ ∀ x ∈ Se, x ∈ S2 ∨ ∃ k ∈ ks, x ∈ B k)
  {w' : World} (hw : Wrote b (p + i * sz) sz w w') (hc' : Cells w' b (p + i * sz) vs) :
  ∃ B', Rel g T ((AG ks H).set id (some (.arr sz (es.set i e')))) io B' tmps w' ∧ Step (ctx g H io B w) (ctx g ((AG ks H).set id (some (.arr sz (es.set i e')))) io B' w') := by
 have hlt : i < es.length := by rcases Nat.lt_or_ge i es.length with h1 | h1; exact h1; simp [h1] at he
 obtain ⟨S1, S2, S3, us1, us2, us3, rfl, rfl, e1, e2, r1, r2, r3⟩ := ML hsz hr he
 have hvl : vs.length = sz := by rw [hre.length, hsz']
 obtain ⟨hnd, hsub⟩ := hSe S1 S2 S3 rfl (by rw [← e1, List.drop_left, ← e2, List.take_left]; exact r2)
 have hmem : ∀ x ∈ b :: (S1 ++ (Se ++ S3)), x ∈ B id ∨ ∃ k ∈ ks, x ∈ B k := by
  intro x hx
  rw [hB]
  simp only [List.mem_cons, List.mem_append] at hx ⊢
  rcases hx with h1 | h1 | h1 | h1
  ·exact .inl (.inl h1)
  ·exact .inl (.inr (.inl h1))
  ·rcases hsub x h1 with h2 | h2
   ·exact .inl (.inr (.inr (.inl h2)))
   ·exact .inr h2
  ·exact .inl (.inr (.inr (.inr h1)))
 obtain ⟨h1, h2⟩ := h.write hl hio ks hid w' (.arr sz (es.set i e')) (b :: (S1 ++ (Se ++ S3))) hnd hmem hw.size hw.block hw.room hw.os hw.tape hw.output (by
  intro C' hCw hCio hst
  refine .inr ⟨b, p, us1 ++ (vs ++ us3), S1 ++ (Se ++ S3), rfl, rfl, by rw [hCw, hw.size]; exact hb, by rw [hCw]; simpa using hw.room _ _ _ hroom, ?_, hsz.set hsz', ?_⟩
  ·rw [hCw]
   intro j u hj
   rcases Nat.lt_or_ge j us1.length with h1 | h1
   ·rw [List.getElem?_append_left h1] at hj
    rw [hw.other _ (by omega)]
    exact hc.left j u hj
   ·rw [List.getElem?_append_right h1] at hj
    rcases Nat.lt_or_ge (j - us1.length) vs.length with h2 | h2
    ·rw [List.getElem?_append_left h2] at hj
     have := hc' _ u hj
     rwa [show p + i * sz + (j - us1.length) = p + j from by omega] at this
    ·rw [List.getElem?_append_right h2] at hj
     rw [hw.other _ (by omega)]
     have := hc.right.right _ u hj
     rwa [show p + us1.length + us2.length + (j - us1.length - vs.length) = p + j from by omega] at this
  ·rw [WS _ _ _ hlt, Ba, Ak]
   have hblk : ∀ x ∈ b :: (S1 ++ (Se ++ S3)), x ≠ b → w'.heap[x]? = w.heap[x]? := fun x _ hx => hw.block x hx
   rw [List.nodup_cons] at hnd
   have hne : ∀ x ∈ S1 ++ (Se ++ S3), (C'.at 0).w.heap[x]? = ((ctx g H io B w).at 0).w.heap[x]? := by
    intro x hx
    show C'.w.heap[x]? = w.heap[x]?
    rw [hCw]
    refine hw.block x ?_
    rintro rfl
    exact hnd.1 hx
   exact RL.append (RL.step (hst.at 0) _ _ _ (fun x hx => hne x (by simp [hx])) r1)
    (RL.append (RL.step (hst.at 0) _ _ _ (fun x hx => hne x (by simp [hx])) hre) (RL.step (hst.at 0) _ _ _ (fun x hx => hne x (by simp [hx])) r3)))
 exact ⟨_, h1, h2⟩
theorem ej (h : Rel g T H io B tmps w) {t : TypeId} {i : TypeInfo} (hi : P.info? t = some i) {addr x : AV} {ua ux : Value} {H' : AH}
  (ha : R (ctx g H io B w) addr [] ua) (hx : R (ctx g H io B w) x [] ux) (hop : ast H i.size addr x = some H') :
  ∃ w' B', (Instr.storeAt t ua ux).run P w = .ok () w' ∧ Rel g T H' io B' tmps w' := by
 unfold ast at hop
 split at hop
 case isFalse => cases hop
 rename_i hok
 simp only [Bool.and_eq_true, beq_iff_eq] at hok
 obtain ⟨hcx, hone⟩ := Ht hx hok.1
 have hlen : ux.cells.toList.length = i.size := by rw [hcx.length]; exact hok.2
 have hsz : ux.cells.size = i.size := by rw [← hlen]; simp
 have run : ∀ (b q : Nat), Ns w b q i.size → ∃ w', (Instr.storeAt t (.pointer (some ⟨b, q, none⟩)) ux).run P w = .ok () w' ∧ Wrote b q i.size w w' ∧ Cells w' b q ux.cells.toList := by
  intro b q hr
  obtain ⟨w', h1, h2, h3⟩ := FQ (P := P) ux.cells.toList w b q 0 (by simpa [hlen, hsz] using hr) hone
  refine ⟨w', ?_, by simpa [hlen, hsz] using h2, by simpa using h3⟩
  simp only [Instr.storeAt, Instr.sureAddr, storeVar, Sem.run_bind, Sem.run_pure, Result.andThen_ok, Bj hi]
  simp only [hsz, ne_eq, not_true, if_false]
  exact h1
 split at hop
 case h_2 => cases hop
 rename_i sz id n o
 rw [R] at ha
 obtain ⟨_, b, p, hio, rfl⟩ := ha
 simp only [ctx] at hio
 split at hop
 ·
  rename_i cs hl
  split at hop
  case isFalse => cases hop
  rename_i hn
  obtain ⟨rfl, ho⟩ := hn
  cases hop
  obtain ⟨b', p', us, h1, h2, h3, h4, h5, h6⟩ := h.rows id _ hl
  rw [hio] at h1; cases h1
  simp only [Nat.zero_mul, Nat.add_zero]
  obtain ⟨w', r1, r2, r3⟩ := run b (p + o) (fun j hj => by have := h4 (o + j) (by omega); rwa [← Nat.add_assoc] at this)
  obtain ⟨q1, _⟩ := h.write hl hio [] (by simp) w' (.box (setL cs o (Ab x))) [b] (by simp) (by intro y hy; left; rw [h2]; exact hy) r2.size r2.block r2.room r2.os r2.tape r2.output (by
   intro C' hCw hCio hst
   have hul : us.length = cs.length := h6.length
   refine ⟨b, p, setL us o ux.cells.toList, rfl, rfl, by rw [hCw, r2.size]; exact h3, by rw [hCw, Ov]; exact r2.room _ _ _ h4, ?_, ?_⟩
   ·rw [hCw]
    exact h5.setL (by rw [hlen, hul]; exact ho) r3 (by rw [hlen]; exact r2)
   ·exact RL.setL (RL.step hst _ _ _ (by simp) h6) (RL.step hst _ _ _ (by simp) hcx) (by rw [hok.2]; exact ho))
  exact ⟨w', _, r1, q1⟩
 ·rename_i sz' es hl
  split at hop
  case isFalse => cases hop
  rename_i hn
  obtain ⟨rfl, hlt⟩ := hn
  rcases h.rows id _ hl with ⟨h0, _, _⟩ | ⟨b', p', us, S, h1, h2, h3, h4, h5, h6, h7⟩
  ·subst h0; simp at hlt
  rw [hio] at h1; cases h1
  have he : es[n]? = some es[n] := by simp [hlt]
  have hnd := h.nd id
  rw [h2] at hnd
  have hle : n * sz' + sz' ≤ es.length * sz' := by
   have := Nat.mul_le_mul_right sz' (show n + 1 ≤ es.length by omega)
   rwa [Nat.add_mul, Nat.one_mul] at this
  split at hop
  ·
   rename_i hok2
   obtain ⟨rfl, hk⟩ := hok2
   split at hop
   case h_2 => cases hop
   rename_i x' ks hf
   split at hop
   case isFalse => cases hop
   rename_i hks
   obtain ⟨hk1, hk2, hk3, hk4⟩ := hks
   cases hop
   obtain ⟨Sx, s1, s2⟩ := bq h x x' ks ux hf hx
   obtain ⟨s3, _⟩ := Ht s1 hk3
   obtain ⟨w', r1, r2, r3⟩ := run b (p + n * sz' + 0) (fun j hj => by
    have := h4 (n * sz' + j) (by omega)
    rwa [← Nat.add_assoc] at this)
   have hfn : Sx.Nodup := List.Sublist.nodup s2 (h.flat_nodup hk1)
   obtain ⟨B', q1, _⟩ := h.writeE (e' := x') hl hio h2 h3 h4 h5 h6 h7 he ks hk2 hk4 s3 (by
    rintro S1 S2 S3 rfl _
    refine ⟨?_, fun y hy => .inr (FE s2 hy)⟩
    have hdis : ∀ y ∈ Sx, y ∉ B id := by
     intro y hy hy2
     obtain ⟨k, hk, hyk⟩ := FE s2 hy
     exact hk2 (h.dj _ _ _ hyk hy2 ▸ hk)
    rw [h2] at hdis
    simp only [List.nodup_cons, List.nodup_append, List.mem_append, List.mem_cons, not_or] at hnd hdis ⊢
    refine ⟨⟨hnd.1.1, fun hb => (hdis b hb).1 rfl, hnd.1.2.2⟩, hnd.2.1, ⟨hfn, hnd.2.2.1.2.1, ?_⟩, ?_⟩
    ·rintro y hy z hz rfl
     exact (hdis y hy).2.2.2 hz
    ·rintro y hy z hz rfl
     rcases hz with hz | hz
     ·exact (hdis y hz).2.1 hy
     ·exact hnd.2.2.2 y hy y (.inr hz) rfl) (by simpa [← hk] using r2) (by simpa using r3)
   exact ⟨w', B', r1, q1⟩
  ·
   split at hop
   case h_2 => cases hop
   rename_i cs x' hcs hf
   split at hop
   case isFalse => cases hop
   rename_i hks
   obtain ⟨hk1, hk2, hk3, hk4⟩ := hks
   cases hop
   obtain ⟨Sx, s1, s2⟩ := bq h x x' [] ux hf hx
   have hSx : Sx = [] := by simpa using s2
   subst hSx
   obtain ⟨s3, _⟩ := Ht s1 hk2
   have hcl : (Ab (AV.agg cs)).length = sz' := h6 _ (List.mem_of_getElem? hcs)
   simp only [Ab] at hcl
   obtain ⟨w', r1, r2, r3⟩ := run b (p + n * sz' + o) (fun j hj => by
    have := h4 (n * sz' + (o + j)) (by omega)
    rwa [show p + (n * sz' + (o + j)) = p + n * sz' + o + j from by omega] at this)
   obtain ⟨S1, S2, S3, us1, us2, us3, rfl, rfl, e1, e2, _, e3, _⟩ := ML h6 h7 hcs
   have hS2 : S2 = [] := Xm e3 hk4
   subst hS2
   have hu2 : us2.length = sz' := e2
   have hc2 := h5.right.left
   rw [e1] at hc2
   simp only [Ab] at e3
   obtain ⟨B', q1, _⟩ := h.writeE (e' := .agg (setL cs o (Ab x'))) (vs := setL us2 o ux.cells.toList) (Se := []) hl hio h2 h3 h4 h5 h6 h7 hcs [] (by simp) (by simp only [Ab]; rw [Ov]; exact hcl)
    (show RL _ (setL cs o (Ab x')) [] _ from RL.setL e3 s3 (by rw [hk3]; exact hk1)) (by
     intro T1 T2 T3 hT hT2
     refine ⟨?_, by simp⟩
     have : List.Sublist (b :: (T1 ++ ([] ++ T3))) (b :: (S1 ++ ([] ++ S3))) := by
      rw [hT]
      exact List.Sublist.cons_cons _ ((List.Sublist.refl _).append ((List.nil_sublist _).append (List.Sublist.refl _)))
     exact this.nodup hnd) (r2.mono (by omega) (by omega)) (hc2.setL (by rw [hlen, hu2]; omega) r3 (by rw [hlen]; exact r2))
   exact ⟨w', B', r1, q1⟩
 ·cases hop
end
section
variable {P : Program} {g : Env} {T : List AV} {H : AH} {io : Nat → Option (Nat × Nat)} {B : Nat → List Nat} {tmps : Array Value} {w : World}
theorem TL (w : World) (cells : Array Value) (elem : TypeId) (us rest : List Value) (h : cells.toList = us ++ rest) : Cells (w.alloc (.cells cells elem)) w.heap.size 0 us := fun j u hj => by
 have h2 : cells[j]? = some u := by
  rw [← Array.getElem?_toList, h, List.getElem?_append_left]
  ·exact hj
  ·rcases Nat.lt_or_ge j us.length with h1 | h1; exact h1; simp [h1] at hj
 rw [Nat.zero_add]
 simpa using h2
theorem PP (w : World) (cells : Array Value) (elem : TypeId) (k : Nat) (h : k ≤ cells.size) : Ns (w.alloc (.cells cells elem)) w.heap.size 0 k := fun j hj => by
 rw [Nat.zero_add]
 refine ⟨⟨cells[j]'(by omega), by simp⟩, by simp⟩
theorem RB (h : Rel g T H io B tmps w) (o : Obj) : Kept g.w0.heap.size g.lent w (w.alloc o) :=
 ⟨rfl, rfl, rfl, by simp, fun k hk _ => K5 w _ k (Nat.lt_of_lt_of_le hk h.kept.size), fun _ _ _ => Vu⟩
theorem Rel.fresh_arr (h : Rel g T H io B tmps w) (ks : List Nat) (cells : Array Value) (elem : TypeId) (sz : Nat) (es : List AV) (us rest : List Value) (S : List Nat)
  (hsz : Sized sz es) (hr : RL ((ctx g H io B w).at 0) (Ak es) S us) (hSn : S.Nodup) (hS : ∀ x ∈ S, ∃ k ∈ ks, x ∈ B k) (hc : cells.toList = us ++ rest) :
  ∃ io' B', io' H.length = some (w.heap.size, 0) ∧ Rel g T (AG ks H ++ [some (.arr sz es)]) io' B' tmps (w.alloc (.cells cells elem)) ∧
    Step (ctx g H io B w) (ctx g (AG ks H ++ [some (.arr sz es)]) io' B' (w.alloc (.cells cells elem))) := by
 have hSlt : ∀ x ∈ S, x < w.heap.size := fun x hx => by obtain ⟨k, _, hk⟩ := hS x hx; exact h.lt k x hk
 have hmem : ∀ x ∈ w.heap.size :: S, ((∃ k ∈ ks, x ∈ B k) ∨ w.heap.size ≤ x) ∧ x < (w.alloc (.cells cells elem)).heap.size := by
  intro x hx
  rw [World.size_alloc]
  rcases List.mem_cons.1 hx with rfl | hx
  ·exact ⟨.inr (Nat.le_refl _), by omega⟩
  ·exact ⟨.inl (hS x hx), by have := hSlt x hx; omega⟩
 have hk := RB h (.cells cells elem)
 have hst := h.adopt_step ks (w.alloc (.cells cells elem)) (.arr sz es) (w.heap.size :: S) (some (w.heap.size, 0)) hmem (by intro b p hp; cases hp; exact .inr (Nat.le_refl _))
  (fun b hb _ => K5 w _ b hb) hk
 refine ⟨_, _, by simp, h.adopt ks (w.alloc (.cells cells elem)) (.arr sz es) (w.heap.size :: S) (some (w.heap.size, 0)) hst (List.nodup_cons.2 ⟨fun hx => by have := hSlt _ hx; omega, hSn⟩) hmem
  (fun id _ x hx => K5 w _ x (h.lt id x hx)) hk ?_, hst⟩
 have hlen : us.length = es.length * sz := by rw [hr.length, Bb hsz]
 have hcs : es.length * sz ≤ cells.size := by rw [← hlen, ← Array.length_toList, hc]; simp
 exact .inr ⟨w.heap.size, 0, us, S, rfl, rfl, by simp [ctx], PP w cells elem _ hcs, TL w cells elem us rest hc, hsz, RL.step (hst.at 0) _ _ _ (fun x hx => K5 w _ x (hSlt x hx)) hr⟩
theorem Rel.fresh_box (h : Rel g T H io B tmps w) (cells : Array Value) (elem : TypeId) (cs : List AV) (hr : RL (ctx g H io B w) cs [] cells.toList) :
  ∃ io' B', io' H.length = some (w.heap.size, 0) ∧ Rel g T (H ++ [some (.box cs)]) io' B' tmps (w.alloc (.cells cells elem)) ∧
    Step (ctx g H io B w) (ctx g (H ++ [some (.box cs)]) io' B' (w.alloc (.cells cells elem))) := by
 have hmem : ∀ x ∈ [w.heap.size], ((∃ k ∈ ([] : List Nat), x ∈ B k) ∨ w.heap.size ≤ x) ∧ x < (w.alloc (.cells cells elem)).heap.size := by
  intro x hx
  rw [World.size_alloc]
  simp at hx; subst hx
  exact ⟨.inr (Nat.le_refl _), by omega⟩
 have hk := RB h (.cells cells elem)
 have hst := h.adopt_step [] (w.alloc (.cells cells elem)) (.box cs) [w.heap.size] (some (w.heap.size, 0)) hmem (by intro b p hp; cases hp; exact .inr (Nat.le_refl _))
  (fun b hb _ => K5 w _ b hb) hk
 refine ⟨_, _, by simp, h.adopt [] (w.alloc (.cells cells elem)) (.box cs) [w.heap.size] (some (w.heap.size, 0)) hst (by simp) hmem (fun id _ x hx => K5 w _ x (h.lt id x hx)) hk ?_, hst⟩
 have hlen : cs.length ≤ cells.size := by rw [← hr.length]; simp
 exact ⟨w.heap.size, 0, cells.toList, rfl, rfl, by simp [ctx], PP w cells elem _ hlen, TL w cells elem _ [] (by simp), RL.step hst _ _ _ (by simp) hr⟩
theorem Rel.phantom (h : Rel g T H io B tmps w) (sz : Nat) {w' : World} (hw : w' = w ∨ ∃ o, w' = w.alloc o) : ∃ io' B', io' H.length = none ∧ Rel g T (H ++ [some (.arr sz [])]) io' B' tmps w' ∧
  Step (ctx g H io B w) (ctx g (H ++ [some (.arr sz [])]) io' B' w') := by
 have hk : Kept g.w0.heap.size g.lent w w' := by
  rcases hw with rfl | ⟨o, rfl⟩
  ·exact Kept.refl _ _ _
  ·exact RB h o
 have hb : ∀ b, b < w.heap.size → w'.heap[b]? = w.heap[b]? := by
  rcases hw with rfl | ⟨o, rfl⟩
  ·exact fun _ _ => rfl
  ·exact fun b hb => K5 w o b hb
 have hst := h.adopt_step [] w' (.arr sz []) [] none (by simp) (by simp) (fun b h1 _ => hb b h1) hk
 exact ⟨_, _, by simp, h.adopt [] w' (.arr sz []) [] none hst (by simp) (by simp) (fun id _ x hx => hb x (h.lt id x hx)) hk (.inl ⟨rfl, rfl, rfl⟩), hst⟩
end
def U3 (H : AH) (sz : Nat) : AV → Option (List AV × List Nat × Nat)
 | .ls sz' id off n => match H[id]? with
   | some (some (.arr sz'' es)) => if sz' = sz ∧ sz'' = sz ∧ off + n ≤ es.length then some ((es.drop off).take n, [id], 0) else none
   | _ => none
 | .lw sz' id off n => match H[id]? with
   | some (some (.arr sz'' es)) => if sz' = sz ∧ sz'' = sz ∧ off + n ≤ es.length then some ((es.drop off).take n, [id], 0) else none
   | _ => none
 | .sl c sz' es => if sz' = sz then some (es, [], c) else none
 | .os _ [] => some ([], [], 0)
 | _ => none
def Nt : List AV → Bool
 | [] => true
 | .v x :: as => x.oneCell' && Nt as
 | _ :: _ => false
def R3 : AV → Bool
 | .v x => x.oneCell'
 | .agg cs => Nt cs
 | _ => false
def KM : List AV → Bool
 | [] => true
 | e :: es => R3 e && KM es
def okL : List AV → Bool
 | [] => true
 | e :: es => okE e && okL es
theorem TB {C : Ctx} : ∀ {as : List AV} {S : List Nat} {us : List Value}, RL C as S us → Nt as = true → S = [] ∧ (∀ C', RL C' as [] us) ∧ ∀ u ∈ us, u.oneCell' = true
 | [], S, us, h, _ => by rw [RL] at h; obtain ⟨rfl, rfl⟩ := h; exact ⟨rfl, fun C' => by rw [RL]; exact ⟨rfl, rfl⟩, by simp⟩
 | a :: as, S, us, h, ha => by
   cases a <;> first | (simp [Nt] at ha; done) | skip
   rename_i x
   simp only [Nt, Bool.and_eq_true] at ha
   rw [RL] at h
   obtain ⟨S1, S2, u, us', rfl, rfl, h1, h2⟩ := h
   rw [R] at h1
   obtain ⟨rfl, rfl⟩ := h1
   obtain ⟨h3, h4, h5⟩ := TB h2 ha.2
   refine ⟨by simp [h3], fun C' => by rw [RL]; exact ⟨[], [], u, us', rfl, rfl, by rw [R]; exact ⟨rfl, rfl⟩, h4 C'⟩, ?_⟩
   intro y hy
   rcases List.mem_cons.1 hy with rfl | hy
   ·exact ha.1
   ·exact h5 y hy
theorem R4 : ∀ {as bs : List AV}, Nt (as ++ bs) = (Nt as && Nt bs)
 | [], bs => by simp [Nt]
 | a :: as, bs => by cases a <;> simp [Nt, R4 (as := as), Bool.and_assoc]
theorem Ow : ∀ {es : List AV}, KM es = true → Nt (Ak es) = true
 | [], _ => by simp [Ak, Nt]
 | e :: es, h => by
   simp only [KM, Bool.and_eq_true] at h
   rw [Ak, R4, Ow h.2, Bool.and_true]
   cases e <;> simp_all [R3, Ab, Nt]
theorem Yt {C : Ctx} : ∀ {es : List AV} {S : List Nat} {us : List Value}, RL C (Ak es) S us → okL es = true → ∀ u ∈ us, u.oneCell' = true
 | [], S, us, h, _ => by rw [Ak, RL] at h; rw [h.2]; simp
 | e :: es, S, us, h, ho => by
   simp only [okL, Bool.and_eq_true] at ho
   rw [Ak] at h
   obtain ⟨S1, S2, us1, us2, rfl, rfl, h1, h2⟩ := h.split
   intro u hu
   rcases List.mem_append.1 hu with hu | hu
   ·cases e with
    | agg cs => exact TJ (as := cs) h1 ho.1 u hu
    | _ =>
      simp only [Ab, RL] at h1
      obtain ⟨S3, S4, v, us', rfl, rfl, h3, _, rfl⟩ := h1
      simp at hu; subst hu
      exact RA h3 ho.1
   ·exact Yt h2 ho.2 u hu
section
variable {P : Program} {g : Env} {T : List AV} {H : AH} {io : Nat → Option (Nat × Nat)} {B : Nat → List Nat} {tmps : Array Value} {w : World}
theorem FR {b p n len cap size : Nat} {us : List Value} (hc : Cells w b p us) (hl : us.length = n * size) : (Builtin.firstCells size n (.slice (some ⟨b, p, none⟩) len cap)).run P w = .ok us.toArray w :=
 run_firstCells_some (P := P) w size n ⟨b, p, none⟩ len cap us hl (fun j v hj => by rw [CL]; exact hc j v hj)
theorem D3 (a : Option Addr) (len cap size : Nat) : (Builtin.firstCells size 0 (.slice a len cap)).run P w = .ok #[] w := by
 cases a <;> simp [Builtin.firstCells, loadCells, loadCellsFrom]
theorem Xn (B : Nat → List Nat) : ∀ ks : List Nat, List.Sublist (ks.flatMap fun k => (B k).tail) (ks.flatMap B)
 | [] => by simp
 | k :: ks => by simp only [List.flatMap_cons]; exact (List.tail_sublist _).append (Xn B ks)
theorem Zq (h : Rel g T H io B tmps w) {sz c : Nat} {x : AV} {u : Value} {es : List AV} {ks : List Nat} (hx : R (ctx g H io B w) x [] u) (hs : U3 H sz x = some (es, ks, c)) :
  ∃ us S a cap, u = .slice a es.length cap ∧ es.length ≤ cap ∧ Sized sz es ∧ RL ((ctx g H io B w).at c) (Ak es) S us ∧ List.Sublist S (ks.flatMap fun k => (B k).tail) ∧
    (∀ (P : Program) (w2 : World), w2.heap = w.heap → (Builtin.firstCells sz es.length u).run P w2 = .ok us.toArray w2) ∧
    (cap = 0 ∨ es = [] ∨ ∃ b q, a = some ⟨b, q, none⟩ ∧ Cells w b q us) := by
 have cells2 : ∀ {b p us} {w2 : World}, Cells w b p us → w2.heap = w.heap → Cells w2 b p us := fun hc hh => hc.of_block (by rw [hh])
 unfold U3 at hs
 split at hs
 ·rename_i sz' id off n
  split at hs
  case h_2 => cases hs
  rename_i sz'' es' hl
  split at hs
  case isFalse => cases hs
  rename_i hc
  obtain ⟨rfl, rfl, hn⟩ := hc
  cases hs
  have hlen : ((es'.drop off).take n).length = n := by simp; omega
  rw [R] at hx
  obtain ⟨_, _, a, cap, rfl, hcap, hr⟩ := hx
  rcases hr with ⟨rfl, _⟩ | ⟨_, b, p, hi, rfl, hroom⟩
  ·have hn0 : n = 0 := by omega
   subst hn0
   refine ⟨[], [], a, 0, by rw [hlen], by simp, by simp [Sized], by simp [Ak, RL], by simp, ?_, .inl rfl⟩
   intro P w2 _
   rw [hlen]; exact D3 _ _ _ _
  ·rcases h.rows id _ hl with ⟨_, _, h3⟩ | ⟨b', p', us, S, h1, h2, h3, h4, h5, h6, h7⟩
   ·simp only [ctx] at hi; rw [h3] at hi; cases hi
   ·simp only [ctx] at hi; rw [hi] at h1; cases h1
    obtain ⟨S1, S2, S3, us1, us2, us3, rfl, rfl, e1, e2, e3⟩ := Hs off n h6 h7 hn
    have hc := h5.right.left
    rw [e1] at hc
    refine ⟨us2, S2, _, cap, by rw [hlen], by rw [hlen]; exact hcap, h6.sub fun x hx => List.mem_of_mem_drop (List.mem_of_mem_take hx), e3, ?_, ?_, .inr (.inr ⟨b, _, rfl, hc⟩)⟩
    ·simp only [List.flatMap_cons, List.flatMap_nil, List.append_nil, h2, List.tail_cons]
     exact (List.sublist_append_left S2 S3).trans (List.sublist_append_right S1 _)
    ·intro P w2 hh
     rw [hlen]
     exact FR (cells2 hc hh) e2
 ·rename_i sz' id off n
  split at hs
  case h_2 => cases hs
  rename_i sz'' es' hl
  split at hs
  case isFalse => cases hs
  rename_i hc
  obtain ⟨rfl, rfl, hn⟩ := hc
  cases hs
  have hlen : ((es'.drop off).take n).length = n := by simp; omega
  rw [R] at hx
  obtain ⟨_, a, cap, rfl, hcap, hr⟩ := hx
  rcases hr with rfl | ⟨_, b, p, hi, rfl, hroom⟩
  ·have hn0 : n = 0 := by omega
   subst hn0
   refine ⟨[], [], a, 0, by rw [hlen], by simp, by simp [Sized], by simp [Ak, RL], by simp, ?_, .inl rfl⟩
   intro P w2 _
   rw [hlen]; exact D3 _ _ _ _
  ·rcases h.rows id _ hl with ⟨_, _, h3⟩ | ⟨b', p', us, S, h1, h2, h3, h4, h5, h6, h7⟩
   ·simp only [ctx] at hi; rw [h3] at hi; cases hi
   ·simp only [ctx] at hi; rw [hi] at h1; cases h1
    obtain ⟨S1, S2, S3, us1, us2, us3, rfl, rfl, e1, e2, e3⟩ := Hs off n h6 h7 hn
    have hc := h5.right.left
    rw [e1] at hc
    refine ⟨us2, S2, _, cap, by rw [hlen], by rw [hlen]; exact hcap, h6.sub fun x hx => List.mem_of_mem_drop (List.mem_of_mem_take hx), e3, ?_, ?_, .inr (.inr ⟨b, _, rfl, hc⟩)⟩
    ·simp only [List.flatMap_cons, List.flatMap_nil, List.append_nil, h2, List.tail_cons]
     exact (List.sublist_append_left S2 S3).trans (List.sublist_append_right S1 _)
    ·intro P w2 hh
     rw [hlen]
     exact FR (cells2 hc hh) e2
 ·rename_i c' sz' es'
  split at hs
  case isFalse => cases hs
  rename_i hc; subst hc
  cases hs
  rw [R] at hx
  obtain ⟨_, a, cap, rfl, hcap, hr⟩ := hx
  rcases hr with rfl | ⟨b, p, us, rfl, hb, _, hcells, hsz, hrl⟩
  ·refine ⟨[], [], a, cap, rfl, hcap, by simp [Sized], by simp [Ak, RL], by simp, ?_, .inr (.inl rfl)⟩
   intro P w2 _
   exact D3 _ _ _ _
  ·refine ⟨us, [], _, cap, rfl, hcap, hsz, hrl, by simp, ?_, .inr (.inr ⟨b, p, rfl, hcells⟩)⟩
   intro P w2 hh
   exact FR (cells2 hcells hh) (by rw [hrl.length, Bb hsz])
 ·cases hs
  rw [R] at hx
  obtain ⟨a, cap, rfl, hcap, hr⟩ := hx
  refine ⟨[], [], a, cap, rfl, hcap, by simp [Sized], by simp [Ak, RL], by simp, ?_, .inr (.inl rfl)⟩
  intro P w2 _
  exact D3 _ _ _ _
 ·cases hs
end
def zc : Value → AV
 | .slice none 0 0 => .os 1 []
 | x => .v x
theorem nO (C : Ctx) (x : Value) : R C (zc x) [] x := by
 by_cases h : x = .slice none 0 0
 ·subst h; show R C (.os 1 []) [] _; rw [R]; exact ⟨none, 0, rfl, by simp, .inl ⟨rfl, rfl⟩⟩
 ·have : zc x = .v x := by unfold zc; split <;> simp_all
  rw [this, R]; exact ⟨rfl, rfl⟩
theorem Vw (C : Ctx) : ∀ xs : List Value, RL C (xs.map zc) [] xs
 | [] => by simp [RL]
 | x :: xs => by rw [List.map_cons, RL]; exact ⟨[], [], x, xs, rfl, rfl, nO C x, Vw C xs⟩
section
variable {P : Program} {w : World}
theorem SM {tS tX ty e : TypeId} {i : TypeInfo} {z : Value} {e2 : TypeId} (ht : P.underlying tS = some (.slice e)) (htx : P.underlying tX = some (.slice e2)) (hi : P.info? e = some i) (hz : i.zero = some z)
  (a : Option Addr) (n cap m : Nat) (u : Value) (olds news : Array Value) (hlen : ∀ w : World, (Builtin.lenOf u).run P w = .ok m w)
  (hf : ∀ w2 : World, w2.heap = w.heap → (Builtin.firstCells i.size n (.slice a n cap)).run P w2 = .ok olds w2) (hfx : ∀ w2 : World, w2.heap = w.heap → (Builtin.firstCells i.size m u).run P w2 = .ok news w2)
  (hg : cap < n + m) (h63 : ((n + m : Nat) : Int) ≤ 9223372036854775807) (hfit : Builtin.nextslicecap (n + m) cap * i.bytes ≤ 281474976710656) :
  (Builtin.append_ #[tS, tX] ty #[.slice a n cap, u]).run P w =
   .ok (.slice (some ⟨w.heap.size, 0, none⟩) (n + m) (grownCap w (n + m) cap e))
    (w.drew.alloc (.cells (olds ++ news ++ Builtin.zeroCells z.cells (grownCap w (n + m) cap e - (n + m))) e)) := by
 have hn : ¬ (n + m ≤ cap) := by omega
 have h63' : ¬ (9223372036854775807 < ((n : Int) + (m : Int))) := by omega
 have h48' : ¬ (281474976710656 < Builtin.nextslicecap (n + m) cap * i.bytes) := by omega
 have h1 := hf w.drew rfl
 have h2 := hfx w.drew rfl
 have hl := hlen w
 simp [Builtin.append_, run_underlying ht, run_underlying htx, sizeOf, typeInfo, zeroValue, hi, hz, hl, hn, h63', h48', Question.forced, h1, h2, newRow, grownCap]
theorem LT {tS tX ty e : TypeId} {i : TypeInfo} {e2 : TypeId} (ht : P.underlying tS = some (.slice e)) (htx : P.underlying tX = some (.slice e2)) (hi : P.info? e = some i)
  (a : Option Addr) (n cap m : Nat) (u : Value) (news : Array Value) (hlen : ∀ w : World, (Builtin.lenOf u).run P w = .ok m w)
  (hfx : ∀ w2 : World, w2.heap = w.heap → (Builtin.firstCells i.size m u).run P w2 = .ok news w2)
  (hg : n + m ≤ cap) {w' : World} (hst : match a with | some a => (storeCells (a.add (n * i.size)) news.toList).run P w = .ok () w' | none => w' = w) :
  (Builtin.append_ #[tS, tX] ty #[.slice a n cap, u]).run P w = .ok (.slice a (n + m) cap) w' := by
 have h2 := hfx w rfl
 have hl := hlen w
 cases a with
 | none =>
   simp only at hst; subst hst
   simp [Builtin.append_, run_underlying ht, run_underlying htx, sizeOf, typeInfo, hi, hl, hg, h2]
 | some a =>
   simp only at hst
   simp [Builtin.append_, run_underlying ht, run_underlying htx, sizeOf, typeInfo, hi, hl, hg, h2, hst]
end
def Zr (H : AH) (sz : Nat) : AV → Option (List AV × List Nat)
 | .ls sz' id off n => match H[id]? with
   | some (some (.arr sz'' es)) => if sz' = sz ∧ sz'' = sz ∧ off + n = es.length then some (es.drop off, [id]) else none
   | _ => none
 | .lw sz' id off n => match H[id]? with
   | some (some (.arr sz'' es)) => if sz' = sz ∧ sz'' = sz ∧ off + n = es.length then some (es.drop off, [id]) else if sz' = sz ∧ sz'' = sz ∧ off + n ≤ es.length then some ((es.drop off).take n, [id]) else none
   | _ => none
 | .os _ [] => some ([], [])
 | _ => none
def mV (sz bytes : Nat) (flat : Bool) (H : AH) (s x : AV) : Option (AV × AH) :=
 match Zr H sz s, U3 H sz x with
 | some (bs, kb), some (xs, kx, c) =>
   if flat then
    if KM xs = true ∧ (bs.length + xs.length) * bytes ≤ 140737488355328 ∧ bs.length + xs.length ≤ 9223372036854775807 then
     some (.ls sz H.length 0 (bs.length + xs.length), AG kb H ++ [some (.arr sz (bs ++ xs))]) else none
   else
    if okL xs = true ∧ c = 0 ∧ (kb ++ kx).Nodup ∧ (bs.length + xs.length) * bytes ≤ 140737488355328 ∧ bs.length + xs.length ≤ 9223372036854775807 then
     some (.ls sz H.length 0 (bs.length + xs.length), AG (kb ++ kx) H ++ [some (.arr sz (bs ++ xs))]) else none
 | _, _ => none
section
variable {P : Program} {g : Env} {T : List AV} {H : AH} {io : Nat → Option (Nat × Nat)} {B : Nat → List Nat} {tmps : Array Value} {w : World}
theorem iI (_h : Rel g T H io B tmps w) {sz : Nat} {x : AV} {u : Value} {es : List AV} {ks : List Nat} (hx : R (ctx g H io B w) x [] u) (hs : Zr H sz x = some (es, ks)) :
  U3 H sz x = some (es, ks, 0) ∧ ks.Nodup ∧ ∀ a n cap, u = .slice a n cap → cap = 0 ∨ ∃ id b p r, ks = [id] ∧ io id = some (b, p) ∧ Live H id r ∧ ∃ off, a = some ⟨b, p + off * sz, none⟩ ∧ Ns w b (p + off * sz) (cap * sz) := by
 unfold Zr at hs
 split at hs
 ·rename_i sz' id off n
  split at hs
  case h_2 => cases hs
  rename_i sz'' es' hl
  split at hs
  case isFalse => cases hs
  rename_i hc
  obtain ⟨rfl, rfl, hn⟩ := hc
  cases hs
  refine ⟨?_, by simp, ?_⟩
  ·simp only [U3, hl]
   rw [if_pos ⟨trivial, trivial, by omega⟩]
   rw [List.take_of_length_le (by simp; omega)]
  ·intro a n' cap hu
   rw [R] at hx
   obtain ⟨_, _, a', cap', hu', hcap, hr⟩ := hx
   rw [hu] at hu'; cases hu'
   refine orB (fun hh => hh.1) ?_ hr
   rintro ⟨_, b, p, hi, ha, hroom⟩
   exact ⟨id, b, p, _, rfl, hi, hl, off, ha, hroom⟩
 ·rename_i sz' id off n
  split at hs
  case h_2 => cases hs
  rename_i sz'' es' hl
  have fin : sz' = sz → sz'' = sz → off + n ≤ es'.length → U3 H sz (.lw sz' id off n) = some ((es'.drop off).take n, [id], 0) ∧ ([id] : List Nat).Nodup ∧ ∀ a n' cap, u = .slice a n' cap → cap = 0 ∨ ∃ id2 b p r, [id] = [id2] ∧ io id2 = some (b, p) ∧ Live H id2 r ∧ ∃ off, a = some ⟨b, p + off * sz, none⟩ ∧ Ns w b (p + off * sz) (cap * sz) := by
   rintro rfl rfl hn
   refine ⟨?_, by simp, ?_⟩
   ·simp only [U3, hl]
    rw [if_pos ⟨trivial, trivial, by omega⟩]
   ·intro a n' cap hu
    rw [R] at hx
    obtain ⟨_, a', cap', hu', hcap, hr⟩ := hx
    rw [hu] at hu'; cases hu'
    refine orR ?_ hr
    rintro ⟨_, b, p, hi, ha, hroom⟩
    exact ⟨id, b, p, _, rfl, hi, hl, off, ha, hroom⟩
  split at hs
  ·rename_i hc
   obtain ⟨h1, h2, hn⟩ := hc
   have e : es'.drop off = (es'.drop off).take n := (List.take_of_length_le (by simp; omega)).symm
   rw [e] at hs
   cases hs
   exact fin h1 h2 (by omega)
  ·split at hs
   case isFalse => cases hs
   rename_i hc
   obtain ⟨h1, h2, hn⟩ := hc
   cases hs
   exact fin h1 h2 hn
 ·cases hs
  refine ⟨rfl, by simp, ?_⟩
  intro a n cap hu
  rw [R] at hx
  obtain ⟨a', cap', hu', hcap, hr⟩ := hx
  rw [hu] at hu'; cases hu'
  rcases hr with ⟨h0, _⟩ | ⟨_, b, p, us, S', hS, _⟩
  ·exact .inl h0
  ·cases hS
 ·cases hs
theorem bu (h : Rel g T H io B tmps w) {tS tX ty e : TypeId} {i : TypeInfo} {z : Value} {e2 : TypeId} (ht : P.underlying tS = some (.slice e)) (htx : P.underlying tX = some (.slice e2)) (hi : P.info? e = some i) (hz : i.zero = some z) (hzc : z.cells.size = i.size)
  {flat : Bool} {s x av : AV} {us ux : Value} {H' : AH} (hs : R (ctx g H io B w) s [] us) (hx : R (ctx g H io B w) x [] ux) (hop : mV i.size i.bytes flat H s x = some (av, H')) :
  ∃ v w' io' B', (Builtin.append_ #[tS, tX] ty #[us, ux]).run P w = .ok v w' ∧ Rel g T H' io' B' tmps w' ∧ R (ctx g H' io' B' w') av [] v := by
 unfold mV at hop
 split at hop
 case h_2 => cases hop
 rename_i bs kb xs kx c hb hsrc
 obtain ⟨hb1, hb2, hb3⟩ := iI h hs hb
 obtain ⟨vb, Sb, ab, cap, rfl, hcap, hszb, hrb, hSb, hfb, hcb⟩ := Zq h hs hb1
 obtain ⟨vx, Sx, ax, capx, rfl, hcapx, hszx, hrx, hSx, hfx, _⟩ := Zq h hx hsrc
 obtain ⟨ks, hks, Sn, hrn, hSn0, h1x, hH, hav, hbound, h63⟩ : ∃ ks : List Nat, (ks.Nodup ∧ ∀ k ∈ kb, k ∈ ks) ∧ ∃ Sn, RL ((ctx g H io B w).at 0) (Ak xs) Sn vx ∧ List.Sublist (Sb ++ Sn) (ks.flatMap fun k => (B k).tail) ∧ (∀ u ∈ vx, u.oneCell' = true) ∧
   H' = AG ks H ++ [some (.arr i.size (bs ++ xs))] ∧ av = .ls i.size H.length 0 (bs.length + xs.length) ∧ (bs.length + xs.length) * i.bytes ≤ 140737488355328 ∧ bs.length + xs.length ≤ 9223372036854775807 := by
  cases flat with
  | true =>
    simp only [if_true] at hop
    split at hop
    case isFalse => cases hop
    rename_i hc
    obtain ⟨hc1, hc2, hc3⟩ := hc
    cases hop
    obtain ⟨_, q2, q3⟩ := TB hrx (Ow hc1)
    exact ⟨kb, ⟨hb2, fun _ hk => hk⟩, [], q2 _, by simpa using hSb, q3, rfl, rfl, hc2, hc3⟩
  | false =>
    simp only [Bool.false_eq_true, if_false] at hop
    split at hop
    case isFalse => cases hop
    rename_i hc
    obtain ⟨hc1, rfl, hc2, hc3, hc4⟩ := hc
    cases hop
    exact ⟨kb ++ kx, ⟨hc2, fun k hk => by simp [hk]⟩, Sx, hrx, by rw [List.flatMap_append]; exact hSb.append hSx, Yt hrx hc1, rfl, rfl, hc3, hc4⟩
 subst hH hav
 have hSn := hSn0.trans (Xn B ks)
 have hlx : ∀ w : World, (Builtin.lenOf (.slice ax xs.length capx)).run P w = .ok xs.length w := fun w => by simp [Builtin.lenOf]
 have hRn : RL ((ctx g H io B w).at 0) (Ak (bs ++ xs)) (Sb ++ Sn) (vb ++ vx) := by rw [Ba]; exact hrb.append hrn
 have hsz : Sized i.size (bs ++ xs) := hszb.append hszx
 have hlb : vb.length = bs.length * i.size := by rw [hrb.length, Bb hszb]
 have hlvx : vx.length = xs.length * i.size := by rw [hrx.length, Bb hszx]
 by_cases hroom : bs.length + xs.length ≤ cap
 ·rcases (show cap = 0 ∨ 0 < cap ∧ _ from by rcases hb3 ab bs.length cap rfl with h0 | h0; exact .inl h0; rcases Nat.eq_zero_or_pos cap with h1 | h1; exact .inl h1; exact .inr ⟨h1, h0⟩) with h0 | ⟨hcap0, id, b, p, r, hkb, hio, hl, off, hab, hrm⟩
  ·
   subst h0
   have hbs : bs = [] := List.length_eq_zero_iff.1 (by omega)
   have hxs : xs = [] := List.length_eq_zero_iff.1 (by omega)
   subst hbs hxs
   have hvx : vx = [] := by simpa using hlvx
   subst hvx
   have hst := h.adopt_step ks w (.arr i.size []) [] none (by simp) (by simp) (fun _ _ _ => rfl) (Kept.refl _ _ _)
   refine ⟨_, _, _, _, LT (w' := w) ht htx hi ab 0 0 0 _ #[] hlx (hfx P) (by simp) ?_, h.adopt ks w (.arr i.size []) [] none hst (by simp) (by simp) (fun _ _ _ _ => rfl) (Kept.refl _ _ _) (.inl ⟨rfl, rfl, rfl⟩), ?_⟩
   ·cases ab <;> simp [storeCells]
   ·rw [R]; exact ⟨rfl, by simp [ctx, AW], ab, 0, rfl, by simp, .inl ⟨rfl, by simp [ctx]⟩⟩
  ·
   subst hkb hab
   have hbM : b ∈ B id := h.row_mem hio hl
   have hcw : Cells w b (p + off * i.size) vb := by
    rcases hcb with h0 | h0 | ⟨b', q, hq, hc⟩
    ·subst h0
     have : vb = [] := List.length_eq_zero_iff.1 (by rw [hlb]; have : bs.length = 0 := by omega
                                                     simp [this])
     rw [this]; exact Cells.nil
    ·subst h0
     have : vb = [] := by simpa using hlb
     rw [this]; exact Cells.nil
    ·cases hq; exact hc
   have hfit : bs.length * i.size + xs.length * i.size ≤ cap * i.size := by rw [← Nat.add_mul]; exact Nat.mul_le_mul_right _ hroom
   obtain ⟨w', r1, r2, r3⟩ := FQ (P := P) vx w b (p + off * i.size + bs.length * i.size) 0 (by
    intro j hj
    have := hrm (bs.length * i.size + j) (by omega)
    rwa [← Nat.add_assoc] at this) h1x
   simp only [Nat.add_zero] at r2 r3
   have hBid : ∃ S, B id = b :: S := by
    have hrow := h.rows id r hl
    cases r with
    | box cs => obtain ⟨b', p', us', h1, h2, _⟩ := hrow; rw [hio] at h1; cases h1; exact ⟨[], h2⟩
    | arr sz' es' =>
      rcases hrow with ⟨_, _, h1⟩ | ⟨b', p', us', S', h1, h2, _⟩
      ·rw [hio] at h1; cases h1
      ·rw [hio] at h1; cases h1; exact ⟨S', h2⟩
    | pool us' es' => rw [hio] at hrow; cases hrow.1
   obtain ⟨S0, hBid⟩ := hBid
   have hbS : ∀ y ∈ Sb ++ Sn, y ≠ b := by
    rintro y hy rfl
    obtain ⟨k, hk, hyk⟩ := List.mem_flatMap.1 (hSn0.subset hy)
    have e := h.dj _ _ _ (List.mem_of_mem_tail hyk) hbM
    subst e
    have hnd := h.nd k
    rw [hBid] at hnd hyk
    exact (List.nodup_cons.1 hnd).1 hyk
   have hidk : id ∈ ks := hks.2 id (by simp)
   have hSnd : (Sb ++ Sn).Nodup := hSn.nodup (h.flat_nodup hks.1)
   have hlt : b < w.heap.size := h.lt id b hbM
   have hmem : ∀ x ∈ b :: (Sb ++ Sn), ((∃ k ∈ ks, x ∈ B k) ∨ w.heap.size ≤ x) ∧ x < w'.heap.size := by
    intro x hx
    rw [r2.size]
    rcases List.mem_cons.1 hx with rfl | hx
    ·exact ⟨.inl ⟨id, hidk, hbM⟩, hlt⟩
    ·obtain ⟨k, hk, hxk⟩ := FE hSn hx
     exact ⟨.inl ⟨k, hk, hxk⟩, h.lt k x hxk⟩
   have hkept : Kept g.w0.heap.size g.lent w w' := by
    refine ⟨r2.os, r2.tape, r2.output, by rw [r2.size]; exact Nat.le_refl _, ?_, r2.room⟩
    intro k hk hn
    refine r2.block k ?_
    rintro rfl
    rcases h.own id k hbM with h1 | h1
    ·omega
    ·exact hn h1
   have hst := h.adopt_step ks w' (.arr i.size (bs ++ xs)) (b :: (Sb ++ Sn)) (some (b, p + off * i.size)) hmem (by intro b' p' hp; cases hp; exact .inl ⟨id, p, r, hio, hl⟩)
    (fun b' hb' hn => r2.block b' (by rintro rfl; exact hn id p r hio hl)) hkept
   have hrw := r2.room _ _ _ hrm
   have hadd : (⟨b, p + off * i.size, none⟩ : Addr).add (bs.length * i.size) = ⟨b, p + off * i.size + bs.length * i.size, none⟩ := CL _ _ _
   refine ⟨_, w', _, _, LT (w' := w') ht htx hi _ bs.length cap xs.length _ vx.toArray hlx (hfx P) hroom (by simp only [hadd]; exact r1),
    h.adopt ks w' (.arr i.size (bs ++ xs)) (b :: (Sb ++ Sn)) (some (b, p + off * i.size)) hst (List.nodup_cons.2 ⟨fun hx => hbS b hx rfl, hSnd⟩) hmem ?_ hkept ?_, ?_⟩
   ·intro j hj x hx
    refine r2.block x ?_
    rintro rfl
    exact hj (h.dj _ _ _ hx hbM ▸ hidk)
   ·refine .inr ⟨b, p + off * i.size, vb ++ vx, Sb ++ Sn, rfl, rfl, by show b < w'.heap.size; rw [r2.size]; exact hlt, ?_, ?_, hsz, ?_⟩
    ·intro j hj
     refine hrw j ?_
     rw [List.length_append, Nat.add_mul] at hj
     omega
    ·refine Cells.append ?_ (by rw [hlb]; exact r3)
     intro j u hj
     show w'.cell? _ = _
     have hjl : j < vb.length := by rcases Nat.lt_or_ge j vb.length with h1 | h1; exact h1; simp [h1] at hj
     rw [r2.other _ (by omega)]
     exact hcw j u hj
    ·exact RL.step (hst.at 0) _ _ _ (fun x hx => r2.block x (hbS x hx)) hRn
   ·rw [R]
    refine ⟨rfl, by simp [ctx, AW], _, cap, rfl, hroom, .inr ⟨hcap0, b, p + off * i.size, by simp [ctx], by rw [Nat.zero_mul, Nat.add_zero], ?_⟩⟩
    rw [Nat.zero_mul, Nat.add_zero]; exact hrw
 ·
  have hfit : Builtin.nextslicecap (bs.length + xs.length) cap * i.bytes ≤ 281474976710656 := growslice_fits (by omega) hbound
  have hrun := SM (w := w) (ty := ty) ht htx hi hz ab bs.length cap xs.length _ vb.toArray vx.toArray hlx (hfb P) (hfx P) (by omega) (by omega) hfit
  obtain ⟨hR, hst1⟩ := h.heap (w' := w.drew) rfl rfl rfl rfl
  obtain ⟨io', B', q1, q2, q3⟩ := hR.fresh_arr ks (vb.toArray ++ vx.toArray ++ Builtin.zeroCells z.cells (grownCap w (bs.length + xs.length) cap e - (bs.length + xs.length))) e i.size (bs ++ xs) (vb ++ vx) (Builtin.zeroCells z.cells (grownCap w (bs.length + xs.length) cap e - (bs.length + xs.length))).toList (Sb ++ Sn) hsz
   (RL.step (hst1.at 0) _ _ _ (fun _ _ => rfl) hRn) (hSn.nodup (h.flat_nodup hks.1)) (fun x hx => FE hSn hx) (by simp)
  refine ⟨_, _, io', B', hrun, q2, ?_⟩
  rw [R]
  refine ⟨rfl, by simp [ctx, AW], _, _, rfl, grownCap_ge w _ cap e, .inr ⟨by have := grownCap_ge w (bs.length + xs.length) cap e; omega, w.heap.size, 0, q1, by rw [Nat.zero_mul], ?_⟩⟩
  rw [Nat.zero_mul, Nat.add_zero]
  refine PP w.drew _ _ _ ?_
  have hge := grownCap_ge w (bs.length + xs.length) cap e
  have hze : z.cells.size = i.size := hzc
  simp only [Array.size_append, List.size_toArray, size_zeroCells, hlb, hlvx, hze, ← Nat.add_mul]
  exact Nat.le_of_eq (by congr 1; omega)
end
def an : IntKind → Int → Bool
 | .i64, n => decide (-9223372036854775808 ≤ n ∧ n ≤ 9223372036854775807)
 | .u8, n => decide (0 ≤ n ∧ n ≤ 255)
 | .u64, n => decide (0 ≤ n ∧ n ≤ 18446744073709551615)
 | _, _ => false
theorem MN {k : IntKind} {n : Int} (h : an k n = true) : k.wrap n = n := by
 cases k <;> simp only [an, decide_eq_true_eq, Bool.false_eq_true] at h
 ·exact IntWalk.i64_in n h
 ·exact IntWalk.u8_in n h
 ·exact IntWalk.u64_in n h
def aq (op : BinOp) (k : IntKind) (a b : Int) : Option Value :=
 match op with
 | .add => if an k (a + b) then some (.int k (a + b)) else none
 | .sub => if an k (a - b) then some (.int k (a - b)) else none
 | .mul => if an k (a * b) then some (.int k (a * b)) else none
 | .quo => if 0 ≤ a ∧ 1 ≤ b ∧ an k a = true then some (.int k (a / b)) else none
 | .rem => if 0 ≤ a ∧ 1 ≤ b then some (.int k (a % b)) else none
 | .eql => some (.bool (a == b))
 | .neq => some (.bool (a != b))
 | .lss => some (.bool (decide (a < b)))
 | .leq => some (.bool (decide (a ≤ b)))
 | .gtr => some (.bool (decide (b < a)))
 | .geq => some (.bool (decide (b ≤ a)))
 | .xor => if 0 ≤ a ∧ 0 ≤ b ∧ a ≤ 4611686018427387903 ∧ b ≤ 4611686018427387903 ∧ k = .i64 then some (.int k ((a.toNat ^^^ b.toNat : Nat) : Int)) else none
 | .shl => if 0 ≤ b ∧ b ≤ 62 ∧ k = .i64 ∧ an k (a * 2 ^ b.toNat) = true then some (.int k (a * 2 ^ b.toNat)) else none
 | .shr => if 0 ≤ b ∧ b ≤ 63 ∧ k = .i64 then some (.int k (a / 2 ^ b.toNat)) else none
 | _ => none
def PQ (op : BinOp) (a b : ByteArray) : Option Value :=
 match op with
 | .add => if a.size + b.size ≤ 140737488355328 then some (.string (a ++ b)) else none
 | .eql => some (.bool (a.toList == b.toList))
 | .neq => some (.bool (!(a.toList == b.toList)))
 | _ => none
def agI : List AV → Option (List Int)
 | [] => some []
 | .v (.int .i64 n) :: as => (agI as).map (n :: ·)
 | _ => none
def eS (op : BinOp) (kd : Nat) : AV → AV → Option AV
 | .v (.int k a), .v (.int k' b) => if k = k' ∧ kd = 0 then (aq op k a b).map .v else none
 | .v (.string a), .v (.string b) => if kd = 1 then (PQ op a b).map .v else none
 | .v (.bool a), .v (.bool b) => if kd = 2 then (match op with | .eql => some (.v (.bool (a == b))) | .neq => some (.v (.bool (!(a == b)))) | _ => none) else none
 | .agg cs, .agg ds => if kd = 3 + cs.length ∧ cs.length = ds.length then (match agI cs, agI ds with
   | some a, some b => (match op with | .eql => some (.v (.bool (decide (a = b)))) | .neq => some (.v (.bool (!decide (a = b)))) | _ => none)
   | _, _ => none) else none
 | _, _ => none
def nP : TypeDesc → Option Nat
 | .int _ => some 0
 | .string => some 1
 | .bool => some 2
 | _ => none
def bw (P : Program) : List Field → Nat → Bool
 | [], _ => true
 | f :: fs, k => f.name != "_" && f.offset == k && (match P.underlying f.type with | some (.int .i64) => true | _ => false) && bw P fs (k + 1)
def kdS (P : Program) (t : TypeId) (d : TypeDesc) : Option Nat := match d with
 | .struct fs => if bw P fs.toList 0 && !P.stoodInHeld t && !P.eqGuardType P.depth t then some (3 + fs.size) else none
 | d => nP d
section
variable {P : Program} {w : World}
theorem iJ {k : IntKind} {a b : Int} (h0 : 0 ≤ a) (h1 : 1 ≤ b) (hf : an k a = true) : an k (a / b) = true := by
 have h2 := Int.ediv_nonneg h0 (show 0 ≤ b by omega)
 have h3 := Int.ediv_le_self b h0
 cases k <;> simp only [an, decide_eq_true_eq, Bool.false_eq_true] at hf ⊢ <;> omega
theorem em {a b : Int} (h0 : 0 ≤ a) (h1 : 0 ≤ b) (h2 : a ≤ 4611686018427387903) (h3 : b ≤ 4611686018427387903) :
  IntKind.i64.wrap ((BitVec.ofInt 64 a ^^^ BitVec.ofInt 64 b).toNat : Int) = ((a.toNat ^^^ b.toNat : Nat) : Int) := by
 have ea : (BitVec.ofInt 64 a).toNat = a.toNat := by rw [BitVec.toNat_ofInt]; omega
 have eb : (BitVec.ofInt 64 b).toNat = b.toNat := by rw [BitVec.toNat_ofInt]; omega
 rw [BitVec.toNat_xor, ea, eb]
 have hx : a.toNat ^^^ b.toNat < 2 ^ 62 := Nat.xor_lt_two_pow (by omega) (by omega)
 exact IntWalk.i64_in _ (by omega)
theorem iK {op : BinOp} {k : IntKind} {a b : Int} {t : TypeId} {v : Value} (h : aq op k a b = some v) : (binOp op t (.int k a) (.int k b)).run P w = .ok v w := by
 cases op <;> simp only [aq] at h <;> first
  | (cases h; simp [binOp, Op.intCmp]; done)
  | (cases h; done)
  | (split at h
     ·rename_i hf
      cases h
      first
       | (obtain ⟨h0, h1, h2, h3, rfl⟩ := hf
          have e := em h0 h1 h2 h3
          simp only [binOp, Op.intBits]
          show (pure (Value.int .i64 (IntKind.i64.wrap ((BitVec.ofInt 64 a ^^^ BitVec.ofInt 64 b).toNat : Int))) : Sem Value).run P w = _
          rw [e]; rfl)
       | (obtain ⟨h0, h1, rfl, hf⟩ := hf
          have hb : ¬ b < 0 := by omega
          have e : min b.toNat IntKind.i64.bits = b.toNat := by
           have : IntKind.i64.bits = 64 := rfl
           omega
          simp only [binOp, Op.shift, if_neg hb, e, MN hf]; rfl)
       | (obtain ⟨h0, h1, rfl⟩ := hf
          have hb : ¬ b < 0 := by omega
          have e : min b.toNat IntKind.i64.bits = b.toNat := by
           have : IntKind.i64.bits = 64 := rfl
           omega
          have e2 : a.fdiv (2 ^ b.toNat) = a / 2 ^ b.toNat := Int.fdiv_eq_ediv_of_nonneg _ (by exact Int.pow_nonneg (by omega))
          simp only [binOp, Op.shift, if_neg hb, e, e2]; rfl)
       | (simp [binOp, Op.intArith, MN hf]; done)
       | (obtain ⟨h0, h1, h2⟩ := hf
          have hb : ¬ b = 0 := by omega
          have e : a.tdiv b = a / b := Int.tdiv_eq_ediv_of_nonneg h0
          simp [binOp, Op.intDiv, hb, e, MN (iJ h0 h1 h2)]; done)
       | (obtain ⟨h0, h1⟩ := hf
          have hb : ¬ b = 0 := by omega
          have e : a.tmod b = a % b := Int.tmod_eq_emod_of_nonneg h0
          simp [binOp, Op.intDiv, hb, e]; done)
     ·cases h)
theorem iL {op : BinOp} {a b : ByteArray} {t : TypeId} {v : Value} (h : PQ op a b = some v) : (binOp op t (.string a) (.string b)).run P w = .ok v w := by
 cases op <;> simp only [PQ] at h <;> first
  | (cases h; simp [binOp, Op.stringOp]; done)
  | (cases h; done)
  | (split at h
     ·rename_i hf
      cases h
      have : ¬ (((a.size + b.size : Nat) : Int) > IntKind.i64.max) := by
       have : IntKind.i64.max = 9223372036854775807 := by decide
       rw [this]; omega
      simp only [binOp, Op.stringOp]
      rw [if_neg this]; rfl
     ·cases h)
theorem Vx {op : BinOp} {t : TypeId} {ox oy : Operand} (a b : Value) (h1 : ∀ z, a ≠ .agg z) (h2 : a ≠ .nilIface) : (eqGuard op t ox oy a b).run P w = .ok () w := by
 cases a <;> first | (exact absurd rfl (h1 _)) | (exact absurd rfl h2) | (unfold eqGuard; split <;> rfl)
theorem RC {op : BinOp} {t : TypeId} {ox oy : Operand} {a b v : Value} (h1 : ∀ z, a ≠ .agg z) (h2 : a ≠ .nilIface) (h : (binOp op t a b).run P w = .ok v w) :
  (do eqGuard op t ox oy a b; binOp op t a b : Sem Value).run P w = .ok v w := by
 simp only [Sem.run_bind, Vx a b h1 h2, Result.andThen_ok]; exact h
theorem iM {C : Ctx} {op : BinOp} {t : TypeId} {ox oy : Operand} {k : IntKind} {a b : Int} {av : AV} (h : (aq op k a b).map AV.v = some av) :
  ∃ v, (∀ w, (do eqGuard op t ox oy (.int k a) (.int k b); binOp op t (.int k a) (.int k b) : Sem Value).run P w = .ok v w) ∧ R C av [] v := by
 cases hv : aq op k a b with
 | none => rw [hv] at h; cases h
 | some v => rw [hv] at h; cases h; exact ⟨v, fun w => RC (by simp) (by simp) (iK hv), by rw [R]; exact ⟨rfl, rfl⟩⟩
theorem iP {C : Ctx} {op : BinOp} {t : TypeId} {ox oy : Operand} {a b : ByteArray} {av : AV} (h : (PQ op a b).map AV.v = some av) :
  ∃ v, (∀ w, (do eqGuard op t ox oy (.string a) (.string b); binOp op t (.string a) (.string b) : Sem Value).run P w = .ok v w) ∧ R C av [] v := by
 cases hv : PQ op a b with
 | none => rw [hv] at h; cases h
 | some v => rw [hv] at h; cases h; exact ⟨v, fun w => RC (by simp) (by simp) (iL hv), by rw [R]; exact ⟨rfl, rfl⟩⟩
theorem WT {t : TypeId} (a b : Bool) (h : P.underlying t = some .bool) : (binOp .neq t (.bool a) (.bool b)).run P w = .ok (.bool (!(a == b))) w := by
 have e : binOp .neq t (.bool a) (.bool b) = (do pure (.bool (!(← Op.equal t (.bool a) (.bool b))))) := rfl
 rw [e]
 simp only [Sem.run_bind, run_equal_bool w t a b h, Result.andThen_ok, Sem.run_pure]
theorem Zs {f : TypeId} {kd : IntKind} (h : P.underlying f = some (.int kd)) {xs : Array Value} {k : Nat} {v : Value} (hx : xs[k]? = some v) : (part f xs k).run P w = .ok v w := by
 unfold part
 simp only [Sem.run_bind, Ng h, Result.andThen_ok, WQ, Bool.false_eq_true, if_false, hx]
 simp
theorem R5 : ∀ (fs : List Field) (k : Nat) (xs ys : Array Value) (as bs : List Int), bw P fs k = true → xs.toList.drop k = as.map (Value.int .i64) → ys.toList.drop k = bs.map (Value.int .i64) → as.length = fs.length → bs.length = fs.length →
  ∀ w, (Op.eqFields 9999 xs ys fs).run P w = .ok (decide (as = bs)) w
 | [], k, xs, ys, as, bs, _, _, _, h3, h4, w => by
   obtain rfl := List.eq_nil_of_length_eq_zero h3
   obtain rfl := List.eq_nil_of_length_eq_zero h4
   simp [Op.eqFields]
 | f :: fs, k, xs, ys, a :: as, b :: bs, h, h1, h2, h3, h4, w => by
   simp only [bw, Bool.and_eq_true, bne_iff_ne, beq_iff_eq] at h
   obtain ⟨⟨⟨hn, ho⟩, ht⟩, hr⟩ := h
   have hu : P.underlying f.type = some (.int .i64) := by
    split at ht
    ·assumption
    ·cases ht
   have hx : xs[k]? = some (.int .i64 a) := by
    have := congrArg (·[0]?) h1
    simpa using this
   have hy : ys[k]? = some (.int .i64 b) := by
    have := congrArg (·[0]?) h2
    simpa using this
   have h1' : xs.toList.drop (k + 1) = as.map (Value.int .i64) := by
    have := congrArg (List.drop 1) h1
    simpa [List.drop_drop] using this
   have h2' : ys.toList.drop (k + 1) = bs.map (Value.int .i64) := by
    have := congrArg (List.drop 1) h2
    simpa [List.drop_drop] using this
   have ih := R5 fs (k + 1) xs ys as bs hr h1' h2' (by simpa using h3) (by simpa using h4)
   simp only [Op.eqFields, if_pos hn, Sem.run_bind, ho, Zs hu hx, Zs hu hy, Result.andThen_ok]
   rw [show (9999 : Nat) = 9998 + 1 from rfl, run_equalIn_int w 9998 f.type .i64 .i64 a b hu]
   simp only [Result.andThen_ok]
   by_cases e : a = b
   ·subst e
    simp only [beq_self_eq_true, Bool.not_true, Bool.false_eq_true, if_false]
    rw [← show (9999 : Nat) = 9998 + 1 from rfl, ih w]
    simp
   ·have e2 : (a == b) = false := by simpa using e
    simp [e2, e]
 | f :: fs, k, xs, ys, [], bs, _, _, _, h3, _, w => by simp at h3
 | f :: fs, k, xs, ys, a :: as, [], _, _, _, _, h4, w => by simp at h4
theorem bx {C : Ctx} : ∀ (cs : List AV) (ns : List Int) (us : List Value), agI cs = some ns → RL C cs [] us → us = ns.map (Value.int .i64)
 | [], ns, us, h, hr => by
   simp only [agI, Option.some.injEq] at h
   rw [RL] at hr
   rw [← h, hr.2]; rfl
 | c :: cs, ns, us, h, hr => by
   unfold agI at h
   split at h
   ·rename_i h0; cases h0
   ·rename_i n as h0
    simp only [List.cons.injEq] at h0
    obtain ⟨rfl, rfl⟩ := h0
    simp only [Option.map_eq_some_iff] at h
    obtain ⟨ms, hm, rfl⟩ := h
    rw [RL] at hr
    obtain ⟨S1, S2, u, us', hS, rfl, r1, r2⟩ := hr
    obtain ⟨rfl, rfl⟩ : S1 = [] ∧ S2 = [] := by simpa using hS.symm
    rw [R] at r1
    rw [r1.2, bx _ _ _ hm r2]; rfl
   ·cases h
theorem Vy {t : TypeId} {fs : Array Field} (hd : P.underlying t = some (.struct fs)) (hg : (bw P fs.toList 0 && !P.stoodInHeld t && !P.eqGuardType P.depth t) = true) {ox oy : Operand} {as bs : List Int} (ha : as.length = fs.size) (hb : bs.length = fs.size) (w : World) (ng : Bool) :
  (do eqGuard (if ng then .neq else .eql) t ox oy (.agg (as.map (Value.int .i64)).toArray) (.agg (bs.map (Value.int .i64)).toArray); binOp (if ng then .neq else .eql) t (.agg (as.map (Value.int .i64)).toArray) (.agg (bs.map (Value.int .i64)).toArray) : Sem Value).run P w =
   .ok (.bool (if ng then !decide (as = bs) else decide (as = bs))) w := by
 simp only [Bool.and_eq_true, Bool.not_eq_true'] at hg
 obtain ⟨⟨h1, h2⟩, h3⟩ := hg
 have hf : P.fieldsOf t = fs := by simp [Program.fieldsOf, hd]
 have e : (Op.equalIn 10000 t (.agg (as.map (Value.int .i64)).toArray) (.agg (bs.map (Value.int .i64)).toArray)).run P w = .ok (decide (as = bs)) w := by
  rw [show (10000 : Nat) = 9999 + 1 from rfl, run_equalIn_struct w 9999 t _ _ (by rw [hf]; exact hd) h2, hf]
  exact R5 fs.toList 0 _ _ as bs h1 (by simp) (by simp) (by simpa using ha) (by simpa using hb) w
 rw [Sem.run_bind, run_eqGuard_agg w _ t ox oy _ _ h3]
 simp only [Result.andThen_ok]
 cases ng with
 | false => simp only [Bool.false_eq_true, if_false]; rw [run_eql_struct, e]; rfl
 | true => simp only [if_true]; rw [run_neq_struct, e]; rfl
theorem kj {C : Ctx} {op : BinOp} {t : TypeId} {d : TypeDesc} {kd : Nat} (hd : P.underlying t = some d) (hk : kdS P t d = some kd) {x y : AV} {ox oy : Operand} {av : AV} {ux uy : Value} (hx : R C x [] ux) (hy : R C y [] uy) (hop : eS op kd x y = some av) :
  ∃ v, (∀ w, (do eqGuard op t ox oy ux uy; binOp op t ux uy : Sem Value).run P w = .ok v w) ∧ R C av [] v := by
 unfold eS at hop
 split at hop
 ·rw [R] at hx hy
  rw [hx.2, hy.2]
  split at hop
  case isFalse => cases hop
  rename_i hc
  rw [← hc.1] at *
  exact iM hop
 ·rw [R] at hx hy
  rw [hx.2, hy.2]
  split at hop
  case isFalse => cases hop
  exact iP hop
 ·rw [R] at hx hy
  rw [hx.2, hy.2]
  split at hop
  case isFalse => cases hop
  rename_i hkd
  rw [hkd] at hk
  have hb : d = .bool := by
   cases d <;> simp [kdS, nP] at hk
   ·rfl
   ·omega
  rw [hb] at hd
  split at hop
  ·cases hop
   exact ⟨_, fun w => RC (by simp) (by simp) (run_eql_bool w t _ _ hd), by rw [R]; exact ⟨rfl, rfl⟩⟩
  ·cases hop
   exact ⟨_, fun w => RC (by simp) (by simp) (WT _ _ hd), by rw [R]; exact ⟨rfl, rfl⟩⟩
  ·cases hop
 ·rename_i cs ds
  split at hop
  case isFalse => cases hop
  rename_i hc
  obtain ⟨hc1, hc2⟩ := hc
  rw [R] at hx hy
  obtain ⟨us, rfl, r1⟩ := hx
  obtain ⟨vs, rfl, r2⟩ := hy
  split at hop
  case h_2 => cases hop
  rename_i as bs ha hb
  have l1 := r1.length
  have l2 := r2.length
  have e1 := bx _ _ _ ha r1
  have e2 := bx _ _ _ hb r2
  subst e1 e2
  cases d <;> simp only [kdS, nP, Option.some.injEq, reduceCtorEq] at hk
  case struct fs =>
   split at hk
   case isFalse => cases hk
   rename_i hg
   simp only [Option.some.injEq] at hk
   simp only [List.length_map] at l1 l2
   split at hop
   ·cases hop
    exact ⟨_, fun w => Vy hd hg (by omega) (by omega) w false, by rw [R]; exact ⟨rfl, rfl⟩⟩
   ·cases hop
    exact ⟨_, fun w => Vy hd hg (by omega) (by omega) w true, by rw [R]; exact ⟨rfl, rfl⟩⟩
   ·cases hop
  all_goals omega
 ·cases hop
def aUn (op : UnOp) : AV → Option AV
 | .v (.bool b) => match op with | .not => some (.v (.bool (!b))) | _ => none
 | .v (.int k n) => match op with | .neg => if an k (0 - n) then some (.v (.int k (0 - n))) else none | _ => none
 | _ => none
theorem nQ {C : Ctx} {op : UnOp} {x av : AV} {u : Value} (hx : R C x [] u) (hop : aUn op x = some av) : ∃ v, (∀ w, (Op.unary op u).run P w = .ok v w) ∧ R C av [] v := by
 unfold aUn at hop
 split at hop
 ·rw [R] at hx; obtain ⟨_, rfl⟩ := hx
  split at hop <;> cases hop
  exact ⟨_, fun w => rfl, by rw [R]; exact ⟨rfl, rfl⟩⟩
 ·rw [R] at hx; obtain ⟨_, rfl⟩ := hx
  split at hop
  ·split at hop
   ·rename_i hf; cases hop
    refine ⟨.int _ (0 - _), ?_, by rw [R]; exact ⟨rfl, rfl⟩⟩
    intro w; simp only [Op.unary, Op.intArith, MN hf]; rfl
   ·cases hop
  ·cases hop
 ·cases hop
def en (k : IntKind) : AV → Option AV
 | .v (.int _ n) => if an k n then some (.v (.int k n)) else none
 | _ => none
theorem iQ {C : Ctx} {src dst : TypeId} {d : TypeDesc} {k : IntKind} (hs : P.underlying src = some d) (hd : P.underlying dst = some (.int k)) {x av : AV} {u : Value} (hx : R C x [] u) (hop : en k x = some av) :
  ∃ v, (∀ w, (convert src dst u).run P w = .ok v w) ∧ R C av [] v := by
 unfold en at hop
 split at hop
 case h_2 => cases hop
 rw [R] at hx; obtain ⟨_, rfl⟩ := hx
 split at hop
 case isFalse => cases hop
 rename_i hf
 cases hop
 refine ⟨_, ?_, by rw [R]; exact ⟨rfl, rfl⟩⟩
 intro w
 simp only [convert, Sem.run_bind, AP hs, AP hd, Result.andThen_ok]
 simp [Conv.intToInt, MN hf]
def gI : AV → Option AV
 | .v (.string s) => some (.v (.int .i64 s.size))
 | .sl _ _ es => some (.v (.int .i64 es.length))
 | .ls _ _ _ n => some (.v (.int .i64 n))
 | .lw _ _ _ n => some (.v (.int .i64 n))
 | .os _ es => some (.v (.int .i64 es.length))
 | _ => none
def b9 : TypeDesc → Bool
 | .slice _ | .string => true
 | _ => false
theorem km {C : Ctx} {t ty : TypeId} {d : TypeDesc} (hd : P.underlying t = some d) (hs : b9 d = true) {x av : AV} {u : Value} (hx : R C x [] u) (hop : gI x = some av) (hty : ∀ s, u = .string s → d = .string) (hty2 : ∀ a n c, u = .slice a n c → d ≠ .string) :
  ∃ v, (∀ w, (Builtin.len_ #[t] ty #[u]).run P w = .ok v w) ∧ R C av [] v := by
 have sl : ∀ a n cap, u = .slice a n cap → ∀ w, (Builtin.len_ #[t] ty #[u]).run P w = .ok (.int .i64 n) w := by
  rintro a n cap rfl w
  have := hty2 a n cap rfl
  cases d <;> first | (simp [b9] at hs; done) | skip
  ·exact absurd rfl this
  ·simp [Builtin.len_, AP hd, goInt]
 unfold gI at hop
 split at hop <;> first | (cases hop; done) | skip
 ·cases hop
  rw [R] at hx; obtain ⟨_, rfl⟩ := hx
  have := hty _ rfl
  subst this
  refine ⟨.int .i64 _, ?_, by rw [R]; exact ⟨rfl, rfl⟩⟩
  intro w; simp [Builtin.len_, AP hd, goInt]
 ·cases hop
  rw [R] at hx; obtain ⟨_, a, cap, hu, _⟩ := hx
  exact ⟨_, sl _ _ _ hu, by rw [R]; exact ⟨rfl, rfl⟩⟩
 ·cases hop
  rw [R] at hx; obtain ⟨_, _, a, cap, hu, _⟩ := hx
  exact ⟨_, sl _ _ _ hu, by rw [R]; exact ⟨rfl, rfl⟩⟩
 ·cases hop
  rw [R] at hx; obtain ⟨_, a, cap, hu, _⟩ := hx
  exact ⟨_, sl _ _ _ hu, by rw [R]; exact ⟨rfl, rfl⟩⟩
 ·cases hop
  rw [R] at hx; obtain ⟨a, cap, hu, _⟩ := hx
  exact ⟨_, sl _ _ _ hu, by rw [R]; exact ⟨rfl, rfl⟩⟩
def eo (mn : Bool) : AV → AV → Option AV
 | .v (.int k x), .v (.int k' y) => if k = k' then some (.v (.int k (if mn then (if y < x then y else x) else (if x < y then y else x)))) else none
 | _, _ => none
theorem cA {C : Ctx} {mn : Bool} {x y av : AV} {u v : Value} (hx : R C x [] u) (hy : R C y [] v) (hop : eo mn x y = some av) : ∃ r, (∀ t w, ((if mn then Builtin.min_ t else Builtin.max_ t) 0 #[u, v]).run P w = .ok r w) ∧ R C av [] r := by
 unfold eo at hop
 split at hop
 case h_2 => cases hop
 rw [R] at hx hy; obtain ⟨_, rfl⟩ := hx; obtain ⟨_, rfl⟩ := hy
 split at hop
 case isFalse => cases hop
 rename_i hk; subst hk
 cases hop
 refine ⟨_, ?_, by rw [R]; exact ⟨rfl, rfl⟩⟩
 intro t w
 cases mn <;> simp [Builtin.min_, Builtin.max_, Builtin.min2, Builtin.max2]
end
end Go.Proofs.Dev
