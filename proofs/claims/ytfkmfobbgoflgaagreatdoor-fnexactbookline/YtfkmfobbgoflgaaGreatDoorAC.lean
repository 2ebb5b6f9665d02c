/- Contracts of the functions of the program over slots and rows, each proved against the program itself; no condition beyond those that each theorem names. -/
import Derived.Test.YtfkmfobbgoflgaaGreatDoorAB
set_option linter.unusedSimpArgs false
set_option linter.unusedVariables false
set_option maxRecDepth 100000
namespace Go.Proofs.Dev
def zE : Value → AV
 | .agg cs => .agg (cs.toList.map zc)
 | x => zc x
theorem cC (x : Value) : Ab (zc x) = [zc x] := by
 unfold zc; split <;> rfl
theorem Xo (z : Value) : Ab (zE z) = z.cells.toList.map zc := by
 cases z <;> first | rfl | (simp only [zE, Value.cells]; rw [cC]; rfl)
def Yr {α : Type} (l : List α) : Nat → List α
 | 0 => []
 | n + 1 => Yr l n ++ l
theorem Zt {α : Type} (l : List α) (n : Nat) : ∀ m, Yr l (n + m) = Yr l n ++ Yr l m
 | 0 => by simp [Yr]
 | m + 1 => by rw [← Nat.add_assoc, Yr, Yr, Zt l n m, List.append_assoc]
theorem PR (z : Array Value) : ∀ c : Nat, (madeCells z (c * z.size)).toList = Yr z.toList c
 | 0 => by simp [madeCells, Yr, Array.range_zero']
 | c + 1 => by
   rw [Yr, ← PR z c]
   simp only [madeCells, Array.toList_map, Array.toList_range, Nat.add_mul, Nat.one_mul, List.range_add, List.map_append, List.map_map]
   congr 1
   apply List.ext_getElem
   ·simp
   ·intro j h1 h2
    simp at h1
    have hm : (c * z.size + j) % z.size = j := by rw [Nat.mul_comm, Nat.mul_add_mod]; exact Nat.mod_eq_of_lt h1
    simp [hm, h1]
theorem gJ (C : Ctx) (z : Value) : ∀ n : Nat, RL C (Ak (List.replicate n (zE z))) [] (Yr z.cells.toList n)
 | 0 => by simp [Ak, Yr, RL]
 | n + 1 => by
   rw [Yr, List.replicate_succ', Ba, Ak, Ak, List.append_nil, Xo]
   have := (gJ C z n).append (Vw C z.cells.toList)
   simpa using this
theorem cD {z : Value} {sz : Nat} (h : z.cells.size = sz) (n : Nat) : Sized sz (List.replicate n (zE z)) := fun e he => by
 rw [List.eq_of_mem_replicate he, Xo]; simpa using h
def amk (sz bytes : Nat) (ze : AV) (H : AH) (l c : AV) : Option (AV × AH) :=
 match l, c with
 | .v (.int _ l), .v (.int _ c) => if 0 ≤ l ∧ l ≤ c ∧ (bytes : Int) * c ≤ 281474976710656 ∧ c ≤ 9223372036854775807 then some (.ls sz H.length 0 l.toNat, H ++ [some (.arr sz (List.replicate l.toNat ze))]) else none
 | _, _ => none
def mW (H : AH) (x : AV) : Option (AV × AH) := if okE x then some (.lp 0 H.length 0 0, H ++ [some (.box (Ab x))]) else none
section
variable {P : Program} {g : Env} {T : List AV} {H : AH} {io : Nat → Option (Nat × Nat)} {B : Nat → List Nat} {tmps : Array Value} {w : World}
theorem iR (h : Rel g T H io B tmps w) {t e : TypeId} {i : TypeInfo} {z : Value} (ht : P.underlying t = some (.slice e)) (hi : P.info? e = some i) (hz : i.zero = some z) (hzc : z.cells.size = i.size)
  {l c av : AV} {ul uc : Value} {H' : AH} (hl : R (ctx g H io B w) l [] ul) (hc : R (ctx g H io B w) c [] uc) (hop : amk i.size i.bytes (zE z) H l c = some (av, H')) :
  ∃ v w' io' B', (Instr.makeSlice t ul uc).run P w = .ok v w' ∧ Rel g T H' io' B' tmps w' ∧ R (ctx g H' io' B' w') av [] v := by
 unfold amk at hop
 split at hop
 case h_2 => cases hop
 rename_i kl ln kc cn
 split at hop
 case isFalse => cases hop
 rename_i hcond
 obtain ⟨h0, h1, h2, h3⟩ := hcond
 cases hop
 rw [R] at hl hc
 obtain ⟨_, rfl⟩ := hl
 obtain ⟨_, rfl⟩ := hc
 have hrun := run_make (P := P) w t e i z ht hi hz kl kc ln cn h0 h1 h2 h3
 by_cases hc0 : cn.toNat = 0
 ·have hl0 : ln.toNat = 0 := by omega
  obtain ⟨io', B', q1, q2, q3⟩ := h.phantom i.size (w' := w.alloc (.cells (madeCells z.cells (cn.toNat * i.size)) e)) (.inr ⟨_, rfl⟩)
  refine ⟨_, _, io', B', hrun, by rw [hl0]; exact q2, ?_⟩
  rw [R]
  exact ⟨rfl, by simp [ctx], _, _, rfl, by omega, .inl ⟨hc0, q1⟩⟩
 have hcells : (madeCells z.cells (cn.toNat * i.size)).toList = Yr z.cells.toList ln.toNat ++ Yr z.cells.toList (cn.toNat - ln.toNat) := by
  rw [← hzc, PR, ← Zt]; congr 1; omega
 obtain ⟨io', B', q1, q2, q3⟩ := h.fresh_arr [] (madeCells z.cells (cn.toNat * i.size)) e i.size (List.replicate ln.toNat (zE z)) (Yr z.cells.toList ln.toNat) _ [] (cD hzc _)
  (gJ _ z ln.toNat) (by simp) (by simp) hcells
 refine ⟨_, _, io', B', hrun, q2, ?_⟩
 rw [R]
 refine ⟨rfl, by simp [ctx, TK], _, _, rfl, by omega, .inr ⟨by omega, w.heap.size, 0, q1, by rw [Nat.zero_mul], ?_⟩⟩
 rw [Nat.zero_mul, Nat.add_zero]
 refine PP w _ _ _ ?_
 rw [size_madeCells]; exact Nat.le_refl _
theorem ko (h : Rel g T H io B tmps w) {t : TypeId} {x av : AV} {u : Value} {H' : AH} (hx : R (ctx g H io B w) x [] u) (hop : mW H x = some (av, H')) :
  ∃ v w' io' B', (Instr.box t u).run P w = .ok v w' ∧ Rel g T H' io' B' tmps w' ∧ R (ctx g H' io' B' w') av [] v := by
 unfold mW at hop
 split at hop
 case isFalse => cases hop
 rename_i ho
 cases hop
 obtain ⟨h1, _⟩ := Ht hx ho
 obtain ⟨io', B', q1, q2, q3⟩ := h.fresh_box u.cells t (Ab x) h1
 refine ⟨.pointer (some ⟨w.heap.size, 0, none⟩), _, io', B', by simp [Instr.box, newVar, newRow], q2, ?_⟩
 rw [R]
 exact ⟨rfl, w.heap.size, 0, q1, by simp⟩
theorem ep (h : Rel g T H io B tmps w) {t : TypeId} {i : TypeInfo} {z : Value} (hi : P.info? t = some i) (hz : i.zero = some z) :
  ∃ v w' io' B', (Instr.alloc t true (.tuple #[])).run P w = .ok v w' ∧ Rel g T (H ++ [some (.box (z.cells.toList.map zc))]) io' B' tmps w' ∧
    R (ctx g (H ++ [some (.box (z.cells.toList.map zc))]) io' B' w') (.lp 0 H.length 0 0) [] v := by
 obtain ⟨io', B', q1, q2, q3⟩ := h.fresh_box z.cells t (z.cells.toList.map zc) (Vw _ _)
 refine ⟨.pointer (some ⟨w.heap.size, 0, none⟩), _, io', B', ?_, q2, ?_⟩
 ·simp [Instr.alloc, Gl hi hz, newVar, newRow]
 ·rw [R]
  exact ⟨rfl, w.heap.size, 0, q1, by simp⟩
end
theorem Vz : ∀ (vs : List Value) (cs : Array Value) (off k : Nat), off + k + vs.length ≤ cs.size →
  ((vs.zipIdx k).foldl (fun cs (x : Value × Nat) => cs.setIfInBounds (off + x.2) x.1) cs).toList = setL cs.toList (off + k) vs
 | [], cs, off, k, _ => by simp [setL]
 | v :: vs, cs, off, k, h => by
   simp only [List.length_cons] at h
   rw [List.zipIdx_cons, List.foldl_cons, Vz vs _ off (k + 1) (by simp; omega)]
   simp only [setL, Array.toList_setIfInBounds]
   rw [← Nat.add_assoc]
theorem Xp {place : Nat → Option (Nat × Nat)} {cells : Array Value} {i off size : Nat} {v : Value} {rest : List (Nat × Value)} (hp : place i = some (off, size)) (hs : v.cells.size = size) (ho : off + size ≤ cells.size) :
  ∃ cells', cells'.toList = setL cells.toList off v.cells.toList ∧ Instr.fill place cells ((i, v) :: rest) = Instr.fill place cells' rest := by
 refine ⟨v.cells.zipIdx.foldl (fun cs (x : Value × Nat) => cs.setIfInBounds (off + x.2) x.1) cells, ?_, ?_⟩
 ·have := Vz v.cells.toList cells off 0 (by simp; omega)
  rw [← Array.foldl_toList, Array.toList_zipIdx]
  simpa using this
 ·simp only [Instr.fill, hp]
  rw [if_neg (by simp; omega)]
def TM (cs : List AV) : List (Nat × Nat × AV) → Option (List AV)
 | [] => some cs
 | (off, size, x) :: r => if okE x = true ∧ (Ab x).length = size ∧ off + size ≤ cs.length then TM (setL cs off (Ab x)) r else none
theorem Yu {C : Ctx} {place : Nat → Option (Nat × Nat)} : ∀ (ps : List (Nat × Value)) (qs : List (Nat × Nat × AV)) (cells : Array Value) (cs cs' : List AV),
  RL C cs [] cells.toList → ps.length = qs.length → (∀ (k : Nat) i v off size x, ps[k]? = some (i, v) → qs[k]? = some (off, size, x) → place i = some (off, size) ∧ R C x [] v) → TM cs qs = some cs' →
  ∃ cells', Instr.fill place cells ps = some cells' ∧ RL C cs' [] cells'.toList
 | [], qs, cells, cs, cs', hr, hl, _, ha => by
   have : qs = [] := List.length_eq_zero_iff.1 (by simpa using hl.symm)
   subst this
   simp only [TM] at ha; cases ha
   exact ⟨cells, rfl, hr⟩
 | (i, v) :: ps, [], cells, cs, cs', hr, hl, _, ha => by simp at hl
 | (i, v) :: ps, (off, size, x) :: qs, cells, cs, cs', hr, hl, hp, ha => by
   simp only [TM] at ha
   split at ha
   case isFalse => cases ha
   rename_i hc
   obtain ⟨h1, h2, h3⟩ := hc
   obtain ⟨hpl, hx⟩ := hp 0 i v off size x rfl rfl
   obtain ⟨h4, _⟩ := Ht hx h1
   have hlen := hr.length
   simp only [Array.length_toList] at hlen
   have h5 : v.cells.size = size := by rw [← h2, ← h4.length]; simp
   obtain ⟨cells', e1, e2⟩ := Xp (cells := cells) (rest := ps) hpl h5 (by omega)
   obtain ⟨cells'', e3, e4⟩ := Yu ps qs cells' _ cs' (by rw [e1]; exact RL.setL hr h4 (by rw [h2]; exact h3)) (by simpa using hl) (fun k i v off size x hk hq => hp (k + 1) i v off size x (by simpa using hk) (by simpa using hq)) ha
   exact ⟨cells'', by rw [e2, e3], e4⟩
theorem Zu {α : Type} : ∀ (d a b c : List α), d.length = b.length → setL (a ++ (b ++ c)) a.length d = a ++ (d ++ c)
 | [], a, b, c, h => by
   have : b = [] := List.length_eq_zero_iff.1 (by simpa using h.symm)
   subst this; rfl
 | x :: d, a, [], c, h => by simp at h
 | x :: d, a, y :: b, c, h => by
   have e : (a ++ (y :: b ++ c)).set a.length x = (a ++ [x]) ++ (b ++ c) := by
    rw [List.set_append_right _ _ (Nat.le_refl _)]; simp
   rw [setL, e]
   have := Zu d (a ++ [x]) b c (by simpa using h)
   simpa using this
def K7 {α : Type} : Nat → List α → List (Nat × α)
 | _, [] => []
 | k, x :: xs => (k, x) :: K7 (k + 1) xs
theorem Zv (size : Nat) : ∀ (vs : List Value) (k : Nat) (cells : Array Value) (pre rest : List Value), cells.toList = pre ++ rest → pre.length = k * size → rest.length = vs.length * size → (∀ v ∈ vs, v.cells.size = size) →
  ∃ cells', Instr.fill (fun i => some (i * size, size)) cells (K7 k vs) = some cells' ∧ cells'.toList = pre ++ vs.flatMap (·.cells.toList)
 | [], k, cells, pre, rest, h, _, hr, _ => by
   have : rest = [] := List.length_eq_zero_iff.1 (by simpa using hr)
   subst this
   exact ⟨cells, rfl, by simpa using h⟩
 | v :: vs, k, cells, pre, rest, h, hp, hr, hv => by
   have hvs : v.cells.size = size := hv v (by simp)
   simp only [List.length_cons, Nat.add_mul, Nat.one_mul] at hr
   have hcs : cells.size = pre.length + rest.length := by rw [← Array.length_toList, h]; simp
   obtain ⟨cells', e1, e2⟩ := Xp (cells := cells) (place := fun i => some (i * size, size)) (i := k) (rest := K7 (k + 1) vs) rfl hvs (by omega)
   have hsplit : rest = rest.take size ++ rest.drop size := (List.take_append_drop _ _).symm
   have e3 : cells'.toList = (pre ++ v.cells.toList) ++ rest.drop size := by
    rw [e1, h, hsplit, ← hp, Zu _ _ _ _ (by simp [hvs]; omega)]; simp
   obtain ⟨cells'', e4, e5⟩ := Zv size vs (k + 1) cells' (pre ++ v.cells.toList) (rest.drop size) e3 (by simp [hvs, hp, Nat.add_mul]) (by simp; omega) (fun x hx => hv x (by simp [hx]))
   refine ⟨cells'', by rw [K7, e2, e4], by rw [e5]; simp⟩
theorem cE {C : Ctx} : ∀ {xs : List AV} {S : List Nat} {us : List Value}, RL C xs S us → okL xs = true → RL C (Ak xs) S (us.flatMap (·.cells.toList))
 | [], S, us, h, _ => by rw [RL] at h; obtain ⟨rfl, rfl⟩ := h; simp [Ak, RL]
 | x :: xs, S, us, h, ho => by
   simp only [okL, Bool.and_eq_true] at ho
   rw [RL] at h
   obtain ⟨S1, S2, u, us', rfl, rfl, h1, h2⟩ := h
   rw [Ak, List.flatMap_cons]
   exact (Ht h1 ho.1).1.append (cE h2 ho.2)
def Xq (sz : Nat) : List AV → Bool
 | [] => true
 | x :: xs => (Ab x).length == sz && Xq sz xs
theorem Xr {sz : Nat} : ∀ {xs : List AV}, Xq sz xs = true → Sized sz xs
 | [], _ => Sized.nil
 | x :: xs, h => by
   simp only [Xq, Bool.and_eq_true, beq_iff_eq] at h
   intro e he
   rcases List.mem_cons.1 he with rfl | he
   ·exact h.1
   ·exact Xr h.2 e he
def mX (sz : Nat) (H : AH) (xs : List AV) : Option (AV × AH) :=
 match fzL H xs with
 | some (xs', ks) => if ks.Nodup ∧ okL xs' = true ∧ Xq sz xs' = true then some (.ls sz H.length 0 xs'.length, AG ks H ++ [some (.arr sz xs')]) else none
 | none => none
def Xs : Option AV → Nat → Option Nat
 | none, d => some d
 | some (.v (.int _ n)), _ => if 0 ≤ n then some n.toNat else none
 | _, _ => none
def Zw (sz : Nat) (z : Bool) (x : AV) (lo hi mx : Option AV) : Option AV :=
 if z then (match x with | .sl _ sz' _ => if sz' = sz then some (.os sz []) else none | .ls sz' _ _ _ => if sz' = sz then some (.os sz []) else none | .lw sz' _ _ _ => if sz' = sz then some (.os sz []) else none | .os _ _ => some (.os sz []) | _ => none) else
 match x with
 | .sl c sz' es => match Xs lo 0, Xs hi es.length with
   | some l, some h => match Xs mx h with
     | some m => if sz' = sz ∧ l ≤ h ∧ h ≤ m ∧ m ≤ es.length then some (.sl c sz ((es.drop l).take (h - l))) else none
     | none => none
   | _, _ => none
 | .ls sz' id off n => match Xs lo 0, Xs hi n with
   | some l, some h => match Xs mx h with
     | some m => if sz' = sz ∧ l ≤ h ∧ h ≤ m ∧ m ≤ n then some (.lw sz id (off + l) (h - l)) else none
     | none => none
   | _, _ => none
 | .lw sz' id off n => match Xs lo 0, Xs hi n with
   | some l, some h => match Xs mx h with
     | some m => if sz' = sz ∧ l ≤ h ∧ h ≤ m ∧ m ≤ n then some (.lw sz id (off + l) (h - l)) else none
     | none => none
   | _, _ => none
 | _ => none
def WU (x : AV) (lo hi : Option AV) : Option AV :=
 match x with
 | .v (.string s) => match Xs lo 0, Xs hi s.size with
   | some l, some h => if l ≤ h ∧ h ≤ s.size then some (.v (.string (s.extract l h))) else none
   | _, _ => none
 | _ => none
def eq (x : AV) (i : Nat) : Option AV := match x with | .tup xs => xs[i]? | _ => none
def mY (ag : Bool) (k len : Nat) (x i : AV) : Option AV :=
 match x, i with
 | .agg cs, .v (.int _ n) => if 0 ≤ n ∧ n < len then ldc ag k (n.toNat * k) cs else none
 | _, _ => none
def Yv (x i : AV) : Option AV :=
 match x, i with
 | .v (.string s), .v (.int _ n) => if 0 ≤ n then (match s[n.toNat]? with | some b => some (.v (.int .u8 b.toNat)) | none => none) else none
 | _, _ => none
section
variable {P : Program} {g : Env} {T : List AV} {H : AH} {io : Nat → Option (Nat × Nat)} {B : Nat → List Nat} {tmps : Array Value} {w : World}
theorem kp (h : Rel g T H io B tmps w) {t e : TypeId} {i : TypeInfo} {z : Value} (ht : P.underlying t = some (.slice e)) (hi : P.info? e = some i) (hz : i.zero = some z) {xs : List AV} {us : List Value} {av : AV} {H' : AH}
  (hx : RL (ctx g H io B w) xs [] us) (hop : mX i.size H xs = some (av, H')) (hsmall : xs.length * i.size ≤ 2 ^ 24) :
  ∃ v w' io' B', (Instr.buildSlice t xs.length (K7 0 us).toArray).run P w = .ok v w' ∧ Rel g T H' io' B' tmps w' ∧ R (ctx g H' io' B' w') av [] v := by
 unfold mX at hop
 split at hop
 case h_2 => cases hop
 rename_i xs' ks hf
 split at hop
 case isFalse => cases hop
 rename_i hc
 obtain ⟨hk, ho, hsz⟩ := hc
 cases hop
 obtain ⟨S, h1, h2⟩ := fzL_ok h xs xs' ks us hf hx
 have hlen : us.length = xs.length := hx.length
 have hlen' : us.length = xs'.length := h1.length
 have hfl := cE h1 ho
 have hszd := Xr hsz
 have hcv : ∀ v ∈ us, v.cells.size = i.size := by
  have aux : ∀ (as : List AV) (S : List Nat) (us : List Value), RL ((ctx g H io B w).at 0) as S us → okL as = true → Sized i.size as → ∀ v ∈ us, v.cells.size = i.size := by
   intro as
   induction as with
   | nil => intro S us h _ _ v hv; rw [RL] at h; rw [h.2] at hv; cases hv
   | cons a as ih =>
     intro S us h ho hs v hv
     rw [RL] at h
     obtain ⟨S1, S2, u, us', rfl, rfl, h3, h4⟩ := h
     simp only [okL, Bool.and_eq_true] at ho
     rcases List.mem_cons.1 hv with rfl | hv
     ·have := (Ht h3 ho.1).1.length
      rw [hs a (by simp)] at this
      simpa using this
     ·exact ih _ _ h4 ho.2 (fun e he => hs e (by simp [he])) v hv
  exact aux _ _ _ h1 ho hszd
 obtain ⟨cells', e1, e2⟩ := Zv i.size us 0 (madeCells (if xs.length * i.size = 0 then #[] else z.cells) (xs.length * i.size)) [] _ rfl (by simp) (by simp [size_madeCells, hlen]) hcv
 have hrun : (Instr.buildSlice t xs.length (K7 0 us).toArray).run P w = .ok (.slice (some ⟨w.heap.size, 0, none⟩) xs.length xs.length) (w.alloc (.cells cells' e)) := by
  simp only [Instr.buildSlice, Sem.run_bind, AP ht, Bj hi, Result.andThen_ok]
  rw [if_neg (by omega)]
  by_cases h0 : xs.length * i.size = 0
  ·rw [if_pos h0] at e1
   simp only [h0, if_true, Sem.run_bind, Sem.run_pure, Result.andThen_ok]
   rw [h0] at e1
   simp only [madeCells] at e1
   rw [e1]
   simp [newRow]
  ·rw [if_neg h0] at e1
   simp only [if_neg h0, Sem.run_bind, Gl hi hz, Sem.run_pure, Result.andThen_ok]
   simp only [madeCells] at e1
   rw [e1]
   simp [newRow]
 by_cases hx0 : xs.length = 0
 ·have hx' : xs' = [] := List.length_eq_zero_iff.1 (by omega)
  have hks : ks = [] := by
   have : xs = [] := List.length_eq_zero_iff.1 hx0
   subst this
   rw [fzL] at hf; cases hf; rfl
  subst hx' hks
  obtain ⟨io', B', q1, q2, q3⟩ := h.phantom i.size (w' := w.alloc (.cells cells' e)) (.inr ⟨_, rfl⟩)
  refine ⟨_, _, io', B', hrun, q2, ?_⟩
  rw [R]
  exact ⟨rfl, by simp [ctx, TK], _, _, by rw [hx0]; rfl, by simp, .inl ⟨hx0, q1⟩⟩
 obtain ⟨io', B', q1, q2, q3⟩ := h.fresh_arr ks cells' e i.size xs' (us.flatMap (·.cells.toList)) [] S hszd hfl (h2.nodup (h.flat_nodup hk)) (fun x hx => FE h2 hx) (by simpa using e2)
 refine ⟨_, _, io', B', hrun, q2, ?_⟩
 rw [R]
 refine ⟨rfl, by simp [ctx, AW], _, _, by rw [← hlen', hlen], by omega, .inr ⟨by omega, w.heap.size, 0, q1, by rw [Nat.zero_mul], ?_⟩⟩
 rw [Nat.zero_mul, Nat.add_zero]
 refine PP w _ _ _ ?_
 have : cells'.toList.length = us.length * i.size := by
  rw [e2, List.nil_append, hfl.length, Bb hszd, hlen']
 rw [Array.length_toList] at this
 rw [this, hlen]; exact Nat.le_refl _
theorem TN {C : Ctx} {x : Option AV} {u : Option Value} {d n : Nat} (hx : match x, u with | none, none => True | some a, some v => R C a [] v | _, _ => False) (h : Xs x d = some n) :
  (x = none ∧ u = none ∧ n = d) ∨ ∃ k : IntKind, ∃ m : Int, u = some (.int k m) ∧ 0 ≤ m ∧ m.toNat = n := by
 unfold Xs at h
 split at h
 ·cases h
  cases u with
  | none => exact .inl ⟨rfl, rfl, rfl⟩
  | some v => exact hx.elim
 ·split at h
  case isFalse => cases h
  rename_i h0
  cases h
  cases u with
  | none => exact hx.elim
  | some v => simp only [R] at hx; rw [hx.2]; exact .inr ⟨_, _, rfl, h0, rfl⟩
 ·cases h
def TO (mx : Option AV) (cap m : Nat) : Nat := match mx with | none => cap | some _ => m
theorem WV {mx : Option AV} {cap m : Nat} (h : m ≤ cap) : m ≤ TO mx cap m ∧ TO mx cap m ≤ cap := by cases mx <;> simp [TO] <;> omega
def au (C : Ctx) (x : Option AV) (u : Option Value) : Prop := match x, u with | none, none => True | some a, some v => R C a [] v | _, _ => False
theorem RD {C : Ctx} {lo hi mx : Option AV} {ulo uhi umx : Option Value} (h1 : au C lo ulo) (h2 : au C hi uhi) (h3 : au C mx umx) {n cap l h m : Nat} (hl : Xs lo 0 = some l) (hh : Xs hi n = some h) (hm : Xs mx h = some m)
  (hmh : mx.isSome → hi.isSome) (hlh : l ≤ h) (hhm : h ≤ m) (hmn : m ≤ n) (hnc : n ≤ cap) :
  (Instr.sliceBounds true n cap ulo uhi umx).run P w = .ok (l, h, TO mx cap m) w := by
 rcases TN h1 hl with ⟨rfl, rfl, rfl⟩ | ⟨k1, m1, rfl, p1, rfl⟩ <;> rcases TN h2 hh with ⟨rfl, rfl, rfl⟩ | ⟨k2, m2, rfl, p2, rfl⟩ <;> rcases TN h3 hm with ⟨rfl, rfl, rfl⟩ | ⟨k3, m3, rfl, p3, rfl⟩ <;>
  (first | (have e : TO mx cap m3.toNat = m3.toNat := by (cases mx with | none => exact h3.elim | some x => rfl)) | skip) <;>
  (first | (have : mx.isSome = true := by (cases mx with | none => exact h3.elim | some x => rfl)) | skip) <;> first
  | (have := hmh this; simp at this; done)
  | (simp (disch := omega) only [e, Instr.sliceBounds, Sem.run_bind, Sem.run_pure, Result.andThen_ok, run_sliceBound, Option.isSome, Bool.false_eq_true, if_false, if_true]; done)
  | (simp (disch := omega) only [TO, Instr.sliceBounds, Sem.run_bind, Sem.run_pure, Result.andThen_ok, run_sliceBound, Option.isSome, Bool.false_eq_true, if_false, if_true]; done)
theorem er {C : Ctx} {t e : TypeId} {i : TypeInfo} {sz : Nat} {z : Bool} {x av : AV} {u : Value} {lo hi mx : Option AV} {ulo uhi umx : Option Value} (ht : P.underlying t = some (.slice e)) (hi' : P.info? e = some i) (hsz : i.size = sz)
  (hx : R C x [] u) (h1 : au C lo ulo) (h2 : au C hi uhi) (h3 : au C mx umx) (hmh : mx.isSome → hi.isSome) (hz : z = true → ulo = none ∧ (∃ k, uhi = some (.int k 0)) ∧ ∃ k, umx = some (.int k 0)) (hop : Zw sz z x lo hi mx = some av) :
  ∃ v, (∀ w, (Instr.sliceAt t u ulo uhi umx).run P w = .ok v w) ∧ R C av [] v := by
 have run : ∀ a n cap l h m, (∀ w, (Instr.sliceBounds true n cap ulo uhi umx).run P w = .ok (l, h, m) w) → ∀ w, (Instr.sliceAt t (.slice a n cap) ulo uhi umx).run P w = .ok (.slice (if m = l then a else a.map (·.add (l * i.size))) (h - l) (m - l)) w := by
  intro a n cap l h m hb w
  simp only [Instr.sliceAt, Instr.slice, Sem.run_bind, AP ht, Result.andThen_ok, hb, Bj hi', Sem.run_pure]
 unfold Zw at hop
 split at hop
 ·rename_i hzt
  obtain ⟨rfl, ⟨k1, rfl⟩, ⟨k2, rfl⟩⟩ := hz hzt
  have hb : ∀ n cap w, (Instr.sliceBounds true n cap none (some (.int k1 0)) (some (.int k2 0))).run P w = .ok (0, 0, 0) w := by
   intro n cap w
   simp (disch := omega) only [Instr.sliceBounds, Sem.run_bind, Sem.run_pure, Result.andThen_ok, run_sliceBound, Option.isSome, Bool.false_eq_true, if_false, if_true]
   rfl
  have fin : ∀ a n cap, u = .slice a n cap → ∃ v, (∀ w, (Instr.sliceAt t u none (some (.int k1 0)) (some (.int k2 0))).run P w = .ok v w) ∧ R C (.os sz []) [] v := by
   rintro a n cap rfl
   refine ⟨_, run a n cap 0 0 0 (hb n cap), ?_⟩
   rw [R]; exact ⟨_, 0, rfl, by simp, .inl ⟨rfl, rfl⟩⟩
  split at hop
  ·split at hop <;> cases hop
   rw [R] at hx; obtain ⟨_, a, cap, hu, _⟩ := hx
   exact fin _ _ _ hu
  ·split at hop <;> cases hop
   rw [R] at hx; obtain ⟨_, _, a, cap, hu, _⟩ := hx
   exact fin _ _ _ hu
  ·split at hop <;> cases hop
   rw [R] at hx; obtain ⟨_, a, cap, hu, _⟩ := hx
   exact fin _ _ _ hu
  ·cases hop
   rw [R] at hx; obtain ⟨a, cap, hu, _⟩ := hx
   exact fin _ _ _ hu
  ·cases hop
 ·split at hop
  ·rename_i c sz' es
   split at hop
   case h_2 => cases hop
   rename_i l h hl hh
   split at hop
   case h_2 => cases hop
   rename_i m hm
   split at hop
   case isFalse => cases hop
   rename_i hc
   obtain ⟨rfl, c1, c2, c3⟩ := hc
   cases hop
   rw [R] at hx
   obtain ⟨_, a, cap, rfl, hcap, hr⟩ := hx
   have hlen : ((es.drop l).take (h - l)).length = h - l := by simp; omega
   refine ⟨_, run _ _ _ _ _ _ (fun w => RD h1 h2 h3 hl hh hm hmh c1 c2 c3 hcap), ?_⟩
   rw [R]
   have hcap2 := WV (mx := mx) (show m ≤ cap by omega)
   refine ⟨rfl, _, _, by rw [hlen], by rw [hlen]; omega, ?_⟩
   rcases hr with rfl | ⟨b, p, us, rfl, hb, hbad, hcells, hs, hrl⟩
   ·left; simp
   ·obtain ⟨S1, S2, S3, us1, us2, us3, hS, rfl, e1, e2, e3⟩ := Hs l (h - l) hs hrl (by omega)
    obtain ⟨rfl, rfl, rfl⟩ : S1 = [] ∧ S2 = [] ∧ S3 = [] := by simpa using hS.symm
    by_cases he : (TO mx cap m) = l
    ·left
     have : h - l = 0 := by omega
     rw [this]; simp
    ·right
     rw [if_neg he]
     have hc := hcells.right.left
     rw [e1] at hc
     exact ⟨b, p + l * sz', us2, by simp [CL, hsz], hb, hbad, hc, hs.sub fun x hx => List.mem_of_mem_drop (List.mem_of_mem_take hx), e3⟩
  ·rename_i sz' id off n
   split at hop
   case h_2 => cases hop
   rename_i l h hl hh
   split at hop
   case h_2 => cases hop
   rename_i m hm
   split at hop
   case isFalse => cases hop
   rename_i hc
   obtain ⟨rfl, c1, c2, c3⟩ := hc
   cases hop
   rw [R] at hx
   obtain ⟨_, _, a, cap, rfl, hcap, hr⟩ := hx
   refine ⟨_, run _ _ _ _ _ _ (fun w => RD h1 h2 h3 hl hh hm hmh c1 c2 c3 hcap), ?_⟩
   rw [R]
   have hcap2 := WV (mx := mx) (show m ≤ cap by omega)
   refine ⟨rfl, _, _, rfl, by omega, ?_⟩
   by_cases he : (TO mx cap m) = l
   ·left; rw [he]; omega
   ·right
    rw [if_neg he]
    rcases hr with ⟨rfl, _⟩ | ⟨_, b, p, hio, rfl, hroom⟩
    ·exfalso; apply he; omega
    ·generalize (TO mx cap m) = q at *
     refine ⟨by omega, b, p, hio, by simp [CL, hsz, Nat.add_mul, Nat.add_assoc], ?_⟩
     intro j hj
     have hle : l * sz' + (q - l) * sz' ≤ cap * sz' := by rw [← Nat.add_mul]; exact Nat.mul_le_mul_right _ (by omega)
     have := hroom (l * sz' + j) (by omega)
     rwa [show p + off * sz' + (l * sz' + j) = p + (off + l) * sz' + j from by rw [Nat.add_mul]; omega] at this
  ·rename_i sz' id off n
   split at hop
   case h_2 => cases hop
   rename_i l h hl hh
   split at hop
   case h_2 => cases hop
   rename_i m hm
   split at hop
   case isFalse => cases hop
   rename_i hc
   obtain ⟨rfl, c1, c2, c3⟩ := hc
   cases hop
   rw [R] at hx
   obtain ⟨_, a, cap, rfl, hcap, hr⟩ := hx
   refine ⟨_, run _ _ _ _ _ _ (fun w => RD h1 h2 h3 hl hh hm hmh c1 c2 c3 hcap), ?_⟩
   rw [R]
   have hcap2 := WV (mx := mx) (show m ≤ cap by omega)
   refine ⟨rfl, _, _, rfl, by omega, ?_⟩
   by_cases he : (TO mx cap m) = l
   ·left; rw [he]; omega
   ·right
    rw [if_neg he]
    rcases hr with rfl | ⟨_, b, p, hio, rfl, hroom⟩
    ·exfalso; apply he; omega
    ·generalize (TO mx cap m) = q at *
     refine ⟨by omega, b, p, hio, by simp [CL, hsz, Nat.add_mul, Nat.add_assoc], ?_⟩
     intro j hj
     have hle : l * sz' + (q - l) * sz' ≤ cap * sz' := by rw [← Nat.add_mul]; exact Nat.mul_le_mul_right _ (by omega)
     have := hroom (l * sz' + j) (by omega)
     rwa [show p + off * sz' + (l * sz' + j) = p + (off + l) * sz' + j from by rw [Nat.add_mul]; omega] at this
  ·cases hop
theorem cF {C : Ctx} {t : TypeId} {x av : AV} {u : Value} {lo hi : Option AV} {ulo uhi : Option Value} (ht : P.underlying t = some .string)
  (hx : R C x [] u) (h1 : au C lo ulo) (h2 : au C hi uhi) (hop : WU x lo hi = some av) :
  ∃ v, (∀ w, (Instr.sliceAt t u ulo uhi none).run P w = .ok v w) ∧ R C av [] v := by
 unfold WU at hop
 split at hop
 case h_2 => cases hop
 rename_i s
 split at hop
 case h_2 => cases hop
 rename_i l h hl hh
 split at hop
 case isFalse => cases hop
 rename_i hc
 cases hop
 rw [R] at hx
 obtain ⟨_, rfl⟩ := hx
 refine ⟨_, ?_, by rw [R]; exact ⟨rfl, rfl⟩⟩
 intro w
 simp only [Instr.sliceAt, Instr.slice, Sem.run_bind, AP ht, Result.andThen_ok]
 rcases TN h1 hl with ⟨rfl, rfl, rfl⟩ | ⟨k1, m1, rfl, p1, rfl⟩ <;> rcases TN h2 hh with ⟨rfl, rfl, rfl⟩ | ⟨k2, m2, rfl, p2, rfl⟩ <;>
  simp (disch := omega) only [Instr.sliceBounds, Sem.run_bind, Sem.run_pure, Result.andThen_ok, run_sliceBound, Option.isSome, Bool.false_eq_true, if_false, if_true]
theorem iT {C : Ctx} {x av : AV} {i : Nat} {u : Value} (hx : R C x [] u) (hop : eq x i = some av) : ∃ v, (∀ w, (Instr.extract u i).run P w = .ok v w) ∧ R C av [] v := by
 unfold eq at hop
 split at hop
 case h_2 => cases hop
 rw [R] at hx
 obtain ⟨us, rfl, hr⟩ := hx
 obtain ⟨S1, S2, S3, v, hS, hv, hR⟩ := hr.get hop
 obtain ⟨rfl, rfl, rfl⟩ : S1 = [] ∧ S2 = [] ∧ S3 = [] := by simpa using hS.symm
 exact ⟨v, fun w => by simp [Instr.extract, hv], hR⟩
theorem Zx {C : Ctx} {t : TypeId} {d : TypeDesc} {i : TypeInfo} (hd : P.underlying t = some d) (hi : P.info? t = some i) {o : Nat} {cs : List AV} {us : List Value} {av : AV} (hr : RL C cs [] us) (hl : ldc (WQ d) i.size o cs = some av) :
  ∃ v, (∀ w, (part t us.toArray o).run P w = .ok v w) ∧ R C av [] v := by
 simp only [part, Sem.run_bind, Ng hd, Result.andThen_ok]
 cases hg : WQ d with
 | true =>
   rw [hg] at hl
   simp only [ldc, if_true] at hl
   split at hl
   case isFalse => cases hl
   rename_i hk
   cases hl
   have hw := hr.window o i.size hk
   refine ⟨_, ?_, by rw [R]; exact ⟨_, rfl, hw⟩⟩
   intro w
   simp only [if_true, Sem.run_bind, Bj hi, Result.andThen_ok, Sem.run_pure]
   congr 2
   apply Array.ext'
   simp
 | false =>
   rw [hg] at hl
   simp only [ldc, Bool.false_eq_true, if_false] at hl ⊢
   obtain ⟨S1, S2, S3, v, hS, hv, hR⟩ := hr.get hl
   obtain ⟨rfl, rfl, rfl⟩ : S1 = [] ∧ S2 = [] ∧ S3 = [] := by simpa using hS.symm
   exact ⟨v, fun w => by simp [hv], hR⟩
theorem kq {C : Ctx} {t : TypeId} {d : TypeDesc} {fs : Array Field} {k : Nat} {f : Field} {i : TypeInfo} (hs : P.underlying t = some (.struct fs)) (hf : fs[k]? = some f) (hd : P.underlying f.type = some d) (hi : P.info? f.type = some i)
  {cs : List AV} {av : AV} {u : Value} (hx : R C (.agg cs) [] u) (hop : ldc (WQ d) i.size f.offset cs = some av) : ∃ v, (∀ w, (Instr.field t u k).run P w = .ok v w) ∧ R C av [] v := by
 rw [R] at hx
 obtain ⟨us, rfl, hr⟩ := hx
 obtain ⟨v, h1, h2⟩ := Zx (P := P) hd hi hr hop
 exact ⟨v, fun w => by simp only [Instr.field, Sem.run_bind, AP hs, Result.andThen_ok, hf, asAgg, Sem.run_pure]; exact h1 w, h2⟩
theorem kr {C : Ctx} {t e : TypeId} {len : Nat} {d : TypeDesc} {i : TypeInfo} (hs : P.underlying t = some (.array len e)) (hd : P.underlying e = some d) (hi : P.info? e = some i)
  {x y av : AV} {u v : Value} (hx : R C x [] u) (hy : R C y [] v) (hop : mY (WQ d) i.size len x y = some av) : ∃ r, (∀ w, (Instr.index t u v).run P w = .ok r w) ∧ R C av [] r := by
 unfold mY at hop
 split at hop
 case h_2 => cases hop
 rename_i cs k n
 split at hop
 case isFalse => cases hop
 rename_i hc
 simp only [R] at hx hy
 obtain ⟨us, rfl, hr⟩ := hx
 obtain ⟨_, rfl⟩ := hy
 obtain ⟨r, h1, h2⟩ := Zx (P := P) hd hi hr hop
 refine ⟨r, ?_, h2⟩
 intro w
 simp only [Instr.index, asIntOf, Sem.run_bind, Sem.run_pure, Result.andThen_ok, AP hs]
 rw [if_pos hc]
 simp only [Sem.run_bind, Bj hi, Result.andThen_ok]
 exact h1 w
theorem iU {C : Ctx} {t : TypeId} (hs : P.underlying t = some .string) {x y av : AV} {u v : Value} (hx : R C x [] u) (hy : R C y [] v) (hop : Yv x y = some av) : ∃ r, (∀ w, (Instr.index t u v).run P w = .ok r w) ∧ R C av [] r := by
 unfold Yv at hop
 split at hop
 case h_2 => cases hop
 rename_i s k n
 split at hop
 case isFalse => cases hop
 rename_i h0
 split at hop
 case h_2 => cases hop
 rename_i b hb
 cases hop
 rw [R] at hx hy
 obtain ⟨_, rfl⟩ := hx
 obtain ⟨_, rfl⟩ := hy
 refine ⟨_, ?_, by rw [R]; exact ⟨rfl, rfl⟩⟩
 intro w
 simp only [Instr.index, asIntOf, Sem.run_bind, Sem.run_pure, Result.andThen_ok, AP hs]
 rw [if_pos h0, hb]; rfl
end
def cin (w : World) (S : List Nat) (forb : Nat → Prop) : Ctx := ⟨w, fun c x => match c with | 0 => x ∈ S ∨ forb x | 1 => x ∈ S | _ => True, fun _ => none, 0⟩
def Xt (w : World) (S : List Nat) (forb : Nat → Prop) : Ctx := ⟨w, fun c x => match c with | 0 => x ∈ S ∨ forb x | _ => True, fun _ => none, 0⟩
def SoundAt (P : Program) (f : Nat) (as : List AV) (r : AV) (ups : List AV) : Prop :=
 ∀ (w : World) (forb : Nat → Prop) (us : List Value) (S : List Nat), RL (cin w S forb) as S us → S.Nodup → (∀ x ∈ S, x < w.heap.size) → ((∀ x, forb x → x < w.heap.size) ∧ GB w S forb) →
   Calls P f us.toArray w fun e w' => ∃ v S', e = .returned v ∧ RL (Xt w' S' forb) (r :: ups) S' (v :: us) ∧ S'.Nodup ∧ (∀ x ∈ S', x < w'.heap.size ∧ (w.heap.size ≤ x ∨ x ∈ S)) ∧ Kept w.heap.size S w w'
def SoundSet (P : Program) (f : Nat) (as : List AV) (post : AV → List AV → Prop) : Prop :=
 ∀ (w : World) (forb : Nat → Prop) (us : List Value) (S : List Nat), RL (cin w S forb) as S us → S.Nodup → (∀ x ∈ S, x < w.heap.size) → ((∀ x, forb x → x < w.heap.size) ∧ GB w S forb) →
   Calls P f us.toArray w fun e w' => ∃ r ups, post r ups ∧ ∃ v S', e = .returned v ∧ RL (Xt w' S' forb) (r :: ups) S' (v :: us) ∧ S'.Nodup ∧ (∀ x ∈ S', x < w'.heap.size ∧ (w.heap.size ≤ x ∨ x ∈ S)) ∧ Kept w.heap.size S w w'
theorem SoundAt.set {P : Program} {f : Nat} {as : List AV} {r : AV} {ups : List AV} (h : SoundAt P f as r ups) : SoundSet P f as fun r' ups' => r' = r ∧ ups' = ups := by
 intro w forb us S h1 h2 h3 h4
 refine Calls.mono (h w forb us S h1 h2 h3 h4) ?_
 intro e w' h5
 exact ⟨r, ups, ⟨rfl, rfl⟩, h5⟩
theorem SoundSet.at {P : Program} {f : Nat} {as : List AV} {r : AV} {ups : List AV} (h : SoundSet P f as fun r' ups' => r' = r ∧ ups' = ups) : SoundAt P f as r ups := by
 intro w forb us S h1 h2 h3 h4
 refine Calls.mono (h w forb us S h1 h2 h3 h4) ?_
 rintro e w' ⟨_, _, ⟨rfl, rfl⟩, h5⟩
 exact h5
theorem SoundSet.mono {P : Program} {f : Nat} {as : List AV} {p q : AV → List AV → Prop} (hpq : ∀ r ups, p r ups → q r ups) (h : SoundSet P f as p) : SoundSet P f as q := by
 intro w forb us S h1 h2 h3 h4
 refine Calls.mono (h w forb us S h1 h2 h3 h4) ?_
 rintro e w' ⟨r, ups, h5, h6⟩
 exact ⟨r, ups, hpq r ups h5, h6⟩
mutual
def I7 : AV → AV
 | .sl c sz es => if c ≤ 1 then .sl c sz es else .bot
 | .vp c cs o => if c ≤ 1 then .vp c cs o else .bot
 | .agg cs => .agg (purgeL cs)
 | .tup cs => .tup (purgeL cs)
 | .fn f cs => .fn f (purgeL cs)
 | a => a
def purgeL : List AV → List AV
 | [] => []
 | a :: as => I7 a :: purgeL as
end
def V0 : Row → Row
 | .box cs => .box (purgeL cs)
 | r => r
def BE : AH → AH
 | [] => []
 | none :: H => none :: BE H
 | some r :: H => some (V0 r) :: BE H
theorem K8 : ∀ as : List AV, (purgeL as).length = as.length
 | [] => by simp [purgeL]
 | a :: as => by simp [purgeL, K8 as]
theorem RE : ∀ (as : List AV) (i : Nat), (purgeL as)[i]? = (as[i]?).map I7
 | [], i => by simp [purgeL]
 | a :: as, 0 => by simp [purgeL]
 | a :: as, i + 1 => by simp [purgeL, RE as i]
theorem HY : ∀ H : AH, (BE H).length = H.length
 | [] => rfl
 | none :: H => by simp [BE, HY H]
 | some r :: H => by simp [BE, HY H]
theorem Ox : ∀ (H : AH) (i : Nat) (r : Row), Live (BE H) i r → ∃ s, Live H i s ∧ r = V0 s
 | [], i, r, h => by simp [Live, BE] at h
 | none :: H, 0, r, h => by simp [Live, BE] at h
 | none :: H, i + 1, r, h => by
   obtain ⟨s, h1, h2⟩ := Ox H i r (by simpa [Live, BE] using h)
   exact ⟨s, by simpa [Live] using h1, h2⟩
 | some s :: H, 0, r, h => by
   simp only [Live, BE, List.getElem?_cons_zero, Option.some.injEq] at h
   exact ⟨s, by simp [Live], h.symm⟩
 | some s :: H, i + 1, r, h => by
   obtain ⟨s, h1, h2⟩ := Ox H i r (by simpa [Live, BE] using h)
   exact ⟨s, by simpa [Live] using h1, h2⟩
def Ctx.nb (C : Ctx) : Ctx := { C with bad := fun c x => match c with | 0 => C.bad 0 x | 1 => C.bad 1 x | _ => True }
theorem aw {C : Ctx} {c : Nat} (h : c ≤ 1) : C.nb.at c = C.at c := by
 have : c = 0 ∨ c = 1 := by omega
 rcases this with rfl | rfl <;> simp only [Ctx.at, Ctx.nb]
mutual
theorem Zy {C : Ctx} : ∀ (a : AV) (u : Value), R C a [] u → R C.nb (I7 a) [] u
 | .bot, u, h => by simp [I7, R]
 | .v x, u, h => by rw [R] at h; simp [I7, R, h]
 | .sl c sz es, u, h => by
   by_cases hc : c ≤ 1
   ·simp only [I7, if_pos hc]
    rw [R] at *
    rw [aw hc]
    have : c = 0 ∨ c = 1 := by omega
    rcases this with rfl | rfl <;> exact h
   ·simp [I7, hc, R]
 | .vp c cs o, u, h => by
   by_cases hc : c ≤ 1
   ·simp only [I7, if_pos hc]
    rw [R] at *
    rw [aw hc]
    have : c = 0 ∨ c = 1 := by omega
    rcases this with rfl | rfl <;> exact h
   ·simp [I7, hc, R]
 | .ls .., u, h => by simp only [I7]; rw [R] at *; exact h
 | .lw .., u, h => by simp only [I7]; rw [R] at *; exact h
 | .lp .., u, h => by simp only [I7]; rw [R] at *; exact h
 | .os .., u, h => by simp only [I7]; rw [R] at *; rw [aw (by omega)]; exact h
 | .op .., u, h => by simp only [I7]; rw [R] at *; rw [aw (by omega)]; exact h
 | .agg cs, u, h => by
   simp only [I7]
   rw [R] at *
   obtain ⟨us, hu, hr⟩ := h
   exact ⟨us, hu, purgeL_ok cs us hr⟩
 | .tup cs, u, h => by
   simp only [I7]
   rw [R] at *
   obtain ⟨us, hu, hr⟩ := h
   exact ⟨us, hu, purgeL_ok cs us hr⟩
 | .fn f cs, u, h => by
   simp only [I7]
   rw [R] at *
   obtain ⟨us, hu, hr⟩ := h
   exact ⟨us, hu, purgeL_ok cs us hr⟩
theorem purgeL_ok {C : Ctx} : ∀ (as : List AV) (us : List Value), RL C as [] us → RL C.nb (purgeL as) [] us
 | [], us, h => by simp only [purgeL]; rw [RL] at *; exact h
 | a :: as, us, h => by
   simp only [purgeL]
   rw [RL] at *
   obtain ⟨S1, S2, u, us', hS, rfl, h1, h2⟩ := h
   obtain ⟨rfl, rfl⟩ : S1 = [] ∧ S2 = [] := by simpa using hS.symm
   exact ⟨[], [], u, us', rfl, rfl, Zy a u h1, purgeL_ok as us' h2⟩
end
structure Q where
 id : Nat
 row : Row
 bs : List Nat
 pl : Option (Nat × Nat)
def B8 (ps : List (Nat × Row)) (H : AH) : AH := ps.foldl (fun H p => H.set p.1 (some p.2)) H
theorem J4 : ∀ (ps : List (Nat × Row)) (H : AH), (B8 ps H).length = H.length
 | [], H => rfl
 | p :: ps, H => by show (B8 ps (H.set p.1 _)).length = _; rw [J4 ps]; simp
theorem FF : ∀ (ps : List (Nat × Row)) (H : AH) (i : Nat) (r : Row), (ps.map (·.1)).Nodup → (∀ p ∈ ps, p.1 < H.length) →
  (Live (B8 ps H) i r ↔ (i, r) ∈ ps ∨ (i ∉ ps.map (·.1) ∧ Live H i r))
 | [], H, i, r, _, _ => by simp [B8]
 | p :: ps, H, i, r, hn, hl => by
   simp only [List.map_cons, List.nodup_cons] at hn
   have ih := FF ps (H.set p.1 (some p.2)) i r hn.2 (fun q hq => by simp; exact hl q (by simp [hq]))
   show Live (B8 ps (H.set p.1 (some p.2))) i r ↔ _
   rw [ih]
   have hp := hl p (by simp)
   simp only [List.mem_cons, List.map_cons, not_or]
   unfold Live
   rw [List.getElem?_set]
   constructor
   ·rintro (h | ⟨h1, h2⟩)
    ·exact .inl (.inr h)
    ·by_cases he : p.1 = i
     ·rw [if_pos he, if_pos (by simpa using hp)] at h2
      simp at h2
      left; left; rw [← he, ← h2]
     ·rw [if_neg he] at h2
      exact .inr ⟨⟨fun e => he e.symm, h1⟩, h2⟩
   ·rintro ((h | h) | ⟨⟨h1, h2⟩, h3⟩)
    ·right
     have e1 : p.1 = i := by rw [← h]
     have e2 : p.2 = r := by rw [← h]
     subst e1 e2
     exact ⟨hn.1, by rw [if_pos rfl, if_pos hp]⟩
    ·exact .inl h
    ·right
     exact ⟨h2, by rw [if_neg (fun e => h1 e.symm)]; exact h3⟩
def prs (qs : List Q) : List (Nat × Row) := qs.map fun q => (q.id, q.row)
def K9 (qs : List Q) (i : Nat) : Option Q := qs.find? (·.id == i)
theorem DZ {qs : List Q} {i : Nat} {q : Q} (h : K9 qs i = some q) : q ∈ qs ∧ q.id = i := by
 have h1 := List.find?_some h
 exact ⟨List.mem_of_find?_eq_some h, by simpa using h1⟩
theorem ay {qs : List Q} {i : Nat} (h : K9 qs i = none) : ∀ q ∈ qs, q.id ≠ i := by
 intro q hq e
 have := List.find?_eq_none.1 h q hq
 simp [e] at this
theorem PS {qs : List Q} (hn : (qs.map (·.id)).Nodup) {q : Q} (hq : q ∈ qs) : K9 qs q.id = some q := by
 induction qs with
 | nil => cases hq
 | cons p ps ih =>
   simp only [List.map_cons, List.nodup_cons] at hn
   unfold K9 at *
   rcases List.mem_cons.1 hq with rfl | hq
   ·simp
   ·have : p.id ≠ q.id := fun e => hn.1 (by rw [e]; exact List.mem_map.2 ⟨q, hq, rfl⟩)
    rw [List.find?_cons_of_neg (by simpa using this)]
    exact ih hn.2 hq
def SN (n : Nat) (H : AH) : AH := H ++ List.replicate n none
theorem Xu (n : Nat) (H : AH) (i : Nat) (r : Row) : Live (SN n H) i r ↔ Live H i r := by
 unfold Live SN
 rcases Nat.lt_or_ge i H.length with h1 | h1
 ·rw [List.getElem?_append_left h1]
 ·rw [List.getElem?_append_right h1, List.getElem?_eq_none h1]
  constructor
  ·intro h
   rw [List.getElem?_replicate] at h
   split at h <;> cases h
  ·intro h; cases h
def ioQ (qs : List Q) (io : Nat → Option (Nat × Nat)) (i : Nat) : Option (Nat × Nat) := match K9 qs i with | some q => q.pl | none => io i
def bQ (qs : List Q) (ks : List Nat) (B : Nat → List Nat) (i : Nat) : List Nat := match K9 qs i with | some q => q.bs | none => if i ∈ ks then [] else B i
section
variable {g : Env} {T : List AV} {H : AH} {io : Nat → Option (Nat × Nat)} {B : Nat → List Nat} {tmps : Array Value} {w : World}
theorem Rel.settle (h : Rel g T H io B tmps w) (pg : Bool) (ks : List Nat) (S : List Nat) (hS : ∀ x ∈ S, ∃ k ∈ ks, x ∈ B k) (hpg : pg = false → S = []) (w' : World) (hk : Kept w.heap.size S w w')
  (qs : List Q) (n : Nat) (hids : (qs.map (·.id)).Nodup) (hid : ∀ q ∈ qs, (q.id ∈ ks ∧ q.id < H.length ∧ q.pl = io q.id) ∨ (H.length ≤ q.id ∧ q.id < H.length + n))
  (hbs : (qs.flatMap (·.bs)).Nodup) (hmem : ∀ q ∈ qs, ∀ x ∈ q.bs, x < w'.heap.size ∧ (w.heap.size ≤ x ∨ x ∈ S))
  (hhead : ∀ q ∈ qs, ∀ b p, q.pl = some (b, p) → b ∈ q.bs)
  (hrows : ∀ C' : Ctx, C'.w = w' → (∀ x, ¬ (∃ q ∈ qs, x ∈ q.bs) → ¬ ((∃ id, x ∈ B id) ∨ g.forb x) → ¬ C'.bad 0 x) → (∀ q ∈ qs, C'.io q.id = q.pl) → H.length + n ≤ C'.n → ∀ q ∈ qs, bi C' q.row q.bs q.pl) :
  let H0 := if pg then BE H else H
  let T' := if pg then purgeL T else T
  let H' := B8 (prs qs) (SN n (AG ks H0))
  Rel g T' H' (ioQ qs io) (bQ qs ks B) tmps w' ∧
   (ctx g H' (ioQ qs io) (bQ qs ks B) w').n = H.length + n ∧ (∀ q ∈ qs, (ioQ qs io) q.id = q.pl) ∧
   (∀ x, ¬ (∃ q ∈ qs, x ∈ q.bs) → ¬ ((∃ id, x ∈ B id) ∨ g.forb x) → ¬ (ctx g H' (ioQ qs io) (bQ qs ks B) w').bad 0 x) := by
 intro H0 T' H'
 have hlen0 : H0.length = H.length := by show (if pg then BE H else H).length = _; split <;> simp [HY]
 have hlenH' : H'.length = H.length + n := by
  show (B8 _ (SN n (AG ks H0))).length = _
  rw [J4, SN, List.length_append, AW, hlen0]; simp
 have hps : (prs qs).map (·.1) = qs.map (·.id) := by simp [prs]
 have hplt : ∀ p ∈ prs qs, p.1 < (SN n (AG ks H0)).length := by
  intro p hp
  obtain ⟨q, hq, rfl⟩ := List.mem_map.1 hp
  have : (SN n (AG ks H0)).length = H.length + n := by rw [SN, List.length_append, AW, hlen0]; simp
  rw [this]
  rcases hid q hq with h1 | h1
  ·show q.id < _; omega
  ·exact h1.2
 have hlive0 : ∀ i r, Live H0 i r → ∃ s, Live H i s ∧ (r = s ∧ pg = false ∨ r = V0 s ∧ pg = true) := by
  intro i r hl
  cases pg with
  | false => exact ⟨r, hl, .inl ⟨rfl, rfl⟩⟩
  | true => obtain ⟨s, h1, h2⟩ := Ox H i r hl; exact ⟨s, h1, .inr ⟨h2, rfl⟩⟩
 have hliveI : ∀ i r, Live H' i r → (∃ q ∈ qs, q.id = i ∧ q.row = r) ∨ (K9 qs i = none ∧ i ∉ ks ∧ Live H0 i r) := by
  intro i r hl
  rw [FF _ _ _ _ (by rw [hps]; exact hids) hplt] at hl
  rcases hl with hl | ⟨h1, h2⟩
  ·obtain ⟨q, hq, he⟩ := List.mem_map.1 hl
   simp only [Prod.mk.injEq] at he
   exact .inl ⟨q, hq, he.1, he.2⟩
  ·rw [Xu, D1] at h2
   refine .inr ⟨?_, h2.1, h2.2⟩
   cases hf : K9 qs i with
   | none => rfl
   | some q =>
     obtain ⟨h3, h4⟩ := DZ hf
     exact absurd (by rw [hps]; exact List.mem_map.2 ⟨q, h3, h4⟩) h1
 have hioQ : ∀ q ∈ qs, ioQ qs io q.id = q.pl := by intro q hq; simp only [ioQ, PS hids hq]
 have hbQ : ∀ q ∈ qs, bQ qs ks B q.id = q.bs := by intro q hq; simp only [bQ, PS hids hq]
 have hio : ∀ i, i < H.length → ioQ qs io i = io i := by
  intro i hi
  simp only [ioQ]
  cases hf : K9 qs i with
  | none => rfl
  | some q =>
    obtain ⟨h3, h4⟩ := DZ hf
    rcases hid q h3 with ⟨_, _, h1⟩ | h1
    ·show q.pl = io i; rw [h1, h4]
    ·omega
 have hBm : ∀ i x, x ∈ bQ qs ks B i → (∃ q ∈ qs, q.id = i ∧ x ∈ q.bs) ∨ (K9 qs i = none ∧ i ∉ ks ∧ x ∈ B i) := by
  intro i x hx
  simp only [bQ] at hx
  cases hf : K9 qs i with
  | none =>
    rw [hf] at hx
    by_cases hk : i ∈ ks
    ·simp [hk] at hx
    ·simp only [if_neg hk] at hx; exact .inr ⟨rfl, hk, hx⟩
  | some q =>
    rw [hf] at hx
    obtain ⟨h3, h4⟩ := DZ hf
    exact .inl ⟨q, h3, h4, hx⟩
 have hbad0 : ∀ x, ¬ (∃ q ∈ qs, x ∈ q.bs) → ¬ ((∃ id, x ∈ B id) ∨ g.forb x) → ¬ (ctx g H' (ioQ qs io) (bQ qs ks B) w').bad 0 x := by
  intro x h1 h2
  show ¬ ((∃ id, x ∈ bQ qs ks B id) ∨ g.forb x)
  rintro (⟨i, hi⟩ | hf)
  ·rcases hBm i x hi with ⟨q, hq, _, hx⟩ | ⟨_, _, hx⟩
   ·exact h1 ⟨q, hq, hx⟩
   ·exact h2 (.inl ⟨i, hx⟩)
  ·exact h2 (.inr hf)
 have hsame : ∀ x, x < w.heap.size → x ∉ S → w'.heap[x]? = w.heap[x]? := fun x hx hn => hk.block x hx hn
 have hnotS : ∀ i x, i ∉ ks → x ∈ B i → x ∉ S := by
  intro i x hi hx hs
  obtain ⟨k, hk1, hk2⟩ := hS x hs
  exact hi (h.dj _ _ _ hk2 hx ▸ hk1)
 have hst : Step (if pg then (ctx g H io B w).nb else ctx g H io B w) (ctx g H' (ioQ qs io) (bQ qs ks B) w') := by
  have hw0 : (if pg then (ctx g H io B w).nb else ctx g H io B w).w = w := by cases pg <;> rfl
  have hn0 : (if pg then (ctx g H io B w).nb else ctx g H io B w).n = H.length := by cases pg <;> rfl
  have hio0 : (if pg then (ctx g H io B w).nb else ctx g H io B w).io = io := by cases pg <;> rfl
  refine ⟨by rw [hw0]; exact hk.size, ?_, ?_, by rw [hn0]; show H.length ≤ H'.length; rw [hlenH']; omega, ?_, by rw [hw0]; exact hk.room⟩
  ·intro c b hb hbad
   rw [hw0] at hb ⊢
   show ¬ bp H' (ioQ qs io) (bQ qs ks B) g.forb c b ∧ w'.heap[b]? = w.heap[b]?
   have k01 : (¬ ∃ j, b ∈ B j) → (¬ ∃ j, b ∈ bQ qs ks B j) ∧ w'.heap[b]? = w.heap[b]? := by
    intro hn
    have hbS : b ∉ S := fun hs => by obtain ⟨k, _, hk2⟩ := hS b hs; exact hn ⟨k, hk2⟩
    refine ⟨?_, hsame b hb hbS⟩
    rintro ⟨i, hi⟩
    rcases hBm i b hi with ⟨q, hq, _, hx⟩ | ⟨_, _, hx⟩
    ·rcases (hmem q hq b hx).2 with h1 | h1
     ·omega
     ·exact hbS h1
    ·exact hn ⟨i, hx⟩
   match c, hbad with
   | 0, hbad =>
     have hb' : ¬ ((∃ id, b ∈ B id) ∨ g.forb b) := by cases pg <;> exact hbad
     rw [not_or] at hb'
     obtain ⟨h1, h2⟩ := k01 hb'.1
     refine ⟨?_, h2⟩
     rintro (h3 | h3)
     ·exact h1 h3
     ·exact hb'.2 h3
   | 1, hbad =>
     have hb' : ¬ (∃ id, b ∈ B id) := by cases pg <;> exact hbad
     exact k01 hb'
   | c + 2, hbad =>
     cases pg with
     | true => exact absurd trivial hbad
     | false =>
       have hS0 : S = [] := hpg rfl
       have hb' : ¬ (∃ id p r, io id = some (b, p) ∧ Live H id r) := hbad
       refine ⟨?_, hsame b hb (by rw [hS0]; simp)⟩
       rintro ⟨i, p, r, hi, hl⟩
       rcases hliveI i r hl with ⟨q, hq, h1, h2⟩ | ⟨h1, h2, h3⟩
       ·rw [← h1, hioQ q hq] at hi
        have := hhead q hq b p hi
        rcases (hmem q hq b this).2 with h4 | h4
        ·omega
        ·rw [hS0] at h4; cases h4
       ·obtain ⟨s, h4, _⟩ := hlive0 i r h3
        rw [hio i h4.lt] at hi
        exact hb' ⟨i, p, s, hi, h4⟩
  ·intro id x hx
   rw [hio0] at hx
   have hlt : id < H.length := by
    rcases Nat.lt_or_ge id H.length with h1 | h1
    ·exact h1
    ·rw [h.io id h1] at hx; cases hx
   show ioQ qs io id = some x
   rw [hio id hlt]; exact hx
  ·intro id hlt
   rw [hn0] at hlt; rw [hio0]
   exact hio id hlt
 refine ⟨⟨?_, ?_, ?_, ?_, ?_, ?_, ?_, ?_, ?_, ?_, h.gb⟩, hlenH', hioQ, hbad0⟩
 ·show tmps.size = (if pg then purgeL T else T).length
  rw [h.size]; split <;> simp [K8]
 ·intro i av hi
  cases hp : pg with
  | false =>
    have hi' : T[i]? = some av := by simpa [T', hp] using hi
    obtain ⟨u, hu, hr⟩ := h.tmps i av hi'
    rw [hp] at hst
    exact ⟨u, hu, R.step hst _ _ _ (by simp) hr⟩
  | true =>
    have hi' : (purgeL T)[i]? = some av := by simpa [T', hp] using hi
    rw [RE] at hi'
    cases hT : T[i]? with
    | none => rw [hT] at hi'; cases hi'
    | some a =>
      rw [hT] at hi'
      simp only [Option.map_some, Option.some.injEq] at hi'
      obtain ⟨u, hu, hr⟩ := h.tmps i a hT
      rw [hp] at hst
      rw [← hi']
      exact ⟨u, hu, R.step hst _ _ _ (by simp) (Zy a u hr)⟩
 ·intro i r hl
  rcases hliveI i r hl with ⟨q, hq, rfl, rfl⟩ | ⟨h1, h2, h3⟩
  ·rw [hbQ q hq, hioQ q hq]
   exact hrows _ rfl hbad0 hioQ (by show H.length + n ≤ H'.length; rw [hlenH']; exact Nat.le_refl _) q hq
  ·obtain ⟨s, h4, h5⟩ := hlive0 i r h3
   have hbi : bQ qs ks B i = B i := by simp only [bQ, h1, if_neg h2]
   rw [hbi, hio i h4.lt]
   have hrow := h.rows i s h4
   have hne : ∀ x ∈ B i, w'.heap[x]? = w.heap[x]? := fun x hx => hsame x (h.lt i x hx) (hnotS i x h2 hx)
   rcases h5 with ⟨rfl, hp⟩ | ⟨rfl, hp⟩
   ·rw [hp] at hst
    cases r with
    | box cs =>
      obtain ⟨b, p, us, a1, a2, a3, a4, a5, a6⟩ := hrow
      exact ⟨b, p, us, a1, a2, Nat.lt_of_lt_of_le a3 hk.size, hk.room _ _ _ a4, a5.of_block (hne b (by rw [a2]; simp)), RL.step hst _ _ _ (by simp) a6⟩
    | arr sz es =>
      refine orR ?_ hrow
      rintro ⟨b, p, us, S', a1, a2, a3, a4, a5, a6, a7⟩
      exact ⟨b, p, us, S', a1, a2, Nat.lt_of_lt_of_le a3 hk.size, hk.room _ _ _ a4, a5.of_block (hne b (by rw [a2]; simp)), a6, RL.step (hst.at 0) _ _ _ (fun x hx => hne x (by rw [a2]; simp [hx])) a7⟩
    | pool us es =>
      obtain ⟨a1, a2, a3⟩ := hrow
      exact ⟨a1, fun x hx => Nat.lt_of_lt_of_le (a2 x hx) hk.size, RL.step (hst.at 0) _ _ _ (fun x hx => hne x hx) a3⟩
   ·rw [hp] at hst
    cases s with
    | box cs =>
      obtain ⟨b, p, us, a1, a2, a3, a4, a5, a6⟩ := hrow
      exact ⟨b, p, us, a1, a2, Nat.lt_of_lt_of_le a3 hk.size, by rw [K8]; exact hk.room _ _ _ a4, a5.of_block (hne b (by rw [a2]; simp)), RL.step hst _ _ _ (by simp) (purgeL_ok _ _ a6)⟩
    | arr sz es =>
      refine orR ?_ hrow
      rintro ⟨b, p, us, S', a1, a2, a3, a4, a5, a6, a7⟩
      refine ⟨b, p, us, S', a1, a2, Nat.lt_of_lt_of_le a3 hk.size, hk.room _ _ _ a4, a5.of_block (hne b (by rw [a2]; simp)), a6, RL.step (hst.at 0) _ _ _ (fun x hx => hne x (by rw [a2]; simp [hx])) ?_⟩
      simp only [if_true]
      rw [aw (by omega)]; exact a7
    | pool us es =>
      obtain ⟨a1, a2, a3⟩ := hrow
      refine ⟨a1, fun x hx => Nat.lt_of_lt_of_le (a2 x hx) hk.size, RL.step (hst.at 0) _ _ _ (fun x hx => hne x hx) ?_⟩
      simp only [if_true]
      rw [aw (by omega)]; exact a3
 ·intro i hn
  simp only [bQ]
  cases hf : K9 qs i with
  | some q =>
    obtain ⟨h3, h4⟩ := DZ hf
    exact absurd ((FF _ _ i q.row (by rw [hps]; exact hids) hplt).2 (.inl (List.mem_map.2 ⟨q, h3, by rw [h4]⟩))) (hn q.row)
  | none =>
    by_cases hk1 : i ∈ ks
    ·simp [hk1]
    ·simp only [if_neg hk1]
     refine h.dead i fun r hl => ?_
     have hi1 : i ∉ (prs qs).map (·.1) := by
      rw [hps]
      intro hm
      obtain ⟨q, hq, e⟩ := List.mem_map.1 hm
      exact ay hf q hq e
     have : ∃ s, Live H0 i s := by
      cases hp : pg with
      | false => exact ⟨r, by simpa [H0, hp] using hl⟩
      | true =>
        have aux : ∀ (H : AH) (i : Nat) (r : Row), Live H i r → Live (BE H) i (V0 r) := by
         intro H
         induction H with
         | nil => intro i r h; simp [Live] at h
         | cons x H ih =>
           intro i r h
           cases i with
           | zero => simp only [Live, List.getElem?_cons_zero, Option.some.injEq] at h; subst h; simp [Live, BE]
           | succ i =>
             have := ih i r (by simpa [Live] using h)
             cases x <;> simpa [Live, BE] using this
        exact ⟨V0 r, by simpa [H0, hp] using aux H i r hl⟩
     obtain ⟨s, hs⟩ := this
     exact hn s ((FF _ _ i s (by rw [hps]; exact hids) hplt).2 (.inr ⟨hi1, by rw [Xu, D1]; exact ⟨hk1, hs⟩⟩))
 ·intro i hi
  have : H.length + n ≤ i := by rw [← hlenH']; exact hi
  simp only [ioQ]
  cases hf : K9 qs i with
  | none => exact h.io i (by omega)
  | some q =>
    obtain ⟨h3, h4⟩ := DZ hf
    rcases hid q h3 with h1 | h1 <;> omega
 ·intro i
  simp only [bQ]
  cases hf : K9 qs i with
  | none => simp only; split; simp; exact h.nd i
  | some q =>
    obtain ⟨h3, _⟩ := DZ hf
    have aux : ∀ (l : List Q), q ∈ l → (l.flatMap (·.bs)).Nodup → q.bs.Nodup := by
     intro l
     induction l with
     | nil => intro h; cases h
     | cons a l ih =>
       intro hm hn
       rw [List.flatMap_cons, List.nodup_append] at hn
       rcases List.mem_cons.1 hm with rfl | hm
       ·exact hn.1
       ·exact ih hm hn.2.1
    exact aux qs h3 hbs
 ·intro i j x hi hj
  rcases hBm i x hi with ⟨q, hq, h1, h2⟩ | ⟨h1, h2, h3⟩ <;> rcases hBm j x hj with ⟨q', hq', h4, h5⟩ | ⟨h4, h5, h6⟩
  ·have aux : ∀ (l : List Q), q ∈ l → q' ∈ l → (l.flatMap (·.bs)).Nodup → q = q' := by
    intro l
    induction l with
    | nil => intro h; cases h
    | cons a l ih =>
      intro hm hm' hn
      rw [List.flatMap_cons, List.nodup_append] at hn
      rcases List.mem_cons.1 hm with e1 | m1 <;> rcases List.mem_cons.1 hm' with e2 | m2
      ·rw [e1, e2]
      ·subst e1; exact absurd rfl (hn.2.2 x h2 x (List.mem_flatMap.2 ⟨q', m2, h5⟩))
      ·subst e2; exact absurd rfl (hn.2.2 x h5 x (List.mem_flatMap.2 ⟨q, m1, h2⟩))
      ·exact ih m1 m2 hn.2.1
   rw [← h1, ← h4, aux qs hq hq' hbs]
  ·exfalso
   rcases (hmem q hq x h2).2 with h7 | h7
   ·have := h.lt j x h6; omega
   ·exact hnotS j x h5 h6 h7
  ·exfalso
   rcases (hmem q' hq' x h5).2 with h7 | h7
   ·have := h.lt i x h3; omega
   ·exact hnotS i x h2 h3 h7
  ·exact h.dj i j x h3 h6
 ·intro i x hx
  rcases hBm i x hx with ⟨q, hq, _, h2⟩ | ⟨_, _, h3⟩
  ·exact (hmem q hq x h2).1
  ·exact Nat.lt_of_lt_of_le (h.lt i x h3) hk.size
 ·intro i x hx
  rcases hBm i x hx with ⟨q, hq, _, h2⟩ | ⟨_, _, h3⟩
  ·rcases (hmem q hq x h2).2 with h7 | h7
   ·exact .inl (Nat.le_trans h.kept.size h7)
   ·obtain ⟨k, _, hk2⟩ := hS x h7; exact h.own k x hk2
  ·exact h.own i x h3
 ·refine h.kept.trans ⟨hk.os, hk.tape, hk.output, hk.size, ?_, hk.room⟩
  intro k hk1 hk2
  refine hk.block k (Nat.lt_of_lt_of_le hk1 h.kept.size) ?_
  intro hs
  obtain ⟨j, _, hj⟩ := hS k hs
  rcases h.own j k hj with h1 | h1
  ·omega
  ·exact hk2 h1
end
mutual
def Hu : AV → Nat → AV × List (Nat × Row) × Nat
 | .os sz es, k => (.ls sz k 0 es.length, [(k, .arr sz es)], k + 1)
 | .op cs, k => (.lp 0 k 0 0, (k, .box (thawL cs (k + 1)).1) :: (thawL cs (k + 1)).2.1, (thawL cs (k + 1)).2.2)
 | .agg cs, k => (.agg (thawL cs k).1, (thawL cs k).2.1, (thawL cs k).2.2)
 | .tup cs, k => (.tup (thawL cs k).1, (thawL cs k).2.1, (thawL cs k).2.2)
 | .fn f cs, k => (.fn f (thawL cs k).1, (thawL cs k).2.1, (thawL cs k).2.2)
 | a, k => (a, [], k)
def thawL : List AV → Nat → List AV × List (Nat × Row) × Nat
 | [], k => ([], [], k)
 | a :: as, k => ((Hu a k).1 :: (thawL as (Hu a k).2.2).1, (Hu a k).2.1 ++ (thawL as (Hu a k).2.2).2.1, (thawL as (Hu a k).2.2).2.2)
end
structure Closed (C : Ctx) : Prop where
 io : ∀ i, C.io i = none
 n : C.n = 0
theorem Closed.at {C : Ctx} (_h : Closed C) : Closed (C.at 0) := ⟨fun _ => rfl, rfl⟩
structure Laid (Cp C : Ctx) (qs : List Q) (k : Nat) : Prop where
 w : C.w = Cp.w
 bad : ∀ c x, ¬ Cp.bad c x → ¬ C.bad c x
 io : ∀ q ∈ qs, C.io q.id = q.pl
 n : k ≤ C.n
theorem Closed.step {Cp C : Ctx} (h : Closed Cp) (hw : C.w = Cp.w) (hb : ∀ c x, ¬ Cp.bad c x → ¬ C.bad c x) : Step Cp C := by
 refine ⟨by rw [hw]; exact Nat.le_refl _, fun c b _ hbad => ⟨hb c b hbad, by rw [hw]⟩, fun id x hx => by (rw [h.io] at hx; cases hx), by (rw [h.n]; exact Nat.zero_le _), fun id hid => by (rw [h.n] at hid; omega), fun b p k hr => by (rw [hw]; exact hr)⟩
structure Gives (qs : List Q) (ps : List (Nat × Row)) (S : List Nat) (k k' : Nat) : Prop where
 ps : prs qs = ps
 bs : qs.flatMap (·.bs) = S
 ids : (qs.map (·.id)).Nodup
 range : ∀ q ∈ qs, k ≤ q.id ∧ q.id < k'
 le : k ≤ k'
 head : ∀ q ∈ qs, ∀ b p, q.pl = some (b, p) → b ∈ q.bs
theorem Gives.nil (k : Nat) : Gives [] [] [] k k := ⟨rfl, rfl, by simp, by simp, Nat.le_refl _, by simp⟩
theorem Gives.append {qs qs' : List Q} {ps ps' : List (Nat × Row)} {S S' : List Nat} {k k' k'' : Nat} (h : Gives qs ps S k k') (h' : Gives qs' ps' S' k' k'') : Gives (qs ++ qs') (ps ++ ps') (S ++ S') k k'' := by
 refine ⟨by simp [prs, ← h.ps, ← h'.ps], by rw [List.flatMap_append, h.bs, h'.bs], ?_, ?_, Nat.le_trans h.le h'.le, ?_⟩
 ·rw [List.map_append, List.nodup_append]
  refine ⟨h.ids, h'.ids, ?_⟩
  rintro a ha b hb rfl
  obtain ⟨q, hq, rfl⟩ := List.mem_map.1 ha
  obtain ⟨q', hq', e⟩ := List.mem_map.1 hb
  have := h.range q hq
  have := h'.range q' hq'
  omega
 ·intro q hq
  have := h.le
  have := h'.le
  rcases List.mem_append.1 hq with hq | hq
  ·have := h.range q hq; omega
  ·have := h'.range q hq; omega
 ·intro q hq
  rcases List.mem_append.1 hq with hq | hq
  ·exact h.head q hq
  ·exact h'.head q hq
theorem Laid.left {Cp C : Ctx} {qs qs' : List Q} {k k' : Nat} (h : Laid Cp C (qs ++ qs') k') (hk : k ≤ k') : Laid Cp C qs k := ⟨h.w, h.bad, fun q hq => h.io q (by simp [hq]), Nat.le_trans hk h.n⟩
theorem Laid.right {Cp C : Ctx} {qs qs' : List Q} {k' : Nat} (h : Laid Cp C (qs ++ qs') k') : Laid Cp C qs' k' := ⟨h.w, h.bad, fun q hq => h.io q (by simp [hq]), h.n⟩
mutual
theorem cG : ∀ (t : AV) (Cp : Ctx) (k : Nat) (S : List Nat) (u : Value), Closed Cp → R Cp t S u → ∃ qs, Gives qs (Hu t k).2.1 S k (Hu t k).2.2 ∧ ∀ C, Laid Cp C qs (Hu t k).2.2 → R C (Hu t k).1 [] u ∧ ∀ q ∈ qs, bi C q.row q.bs q.pl
 | .os sz es, Cp, k, S, u, hc, hr => by
   rw [R] at hr
   obtain ⟨a, cap, hu, hcap, hr⟩ := hr
   rcases hr with ⟨h0, hS⟩ | ⟨h0, b, p, us, S', hS, ha, hb, hroom, hcells, hsz, hrl⟩
   ·have he : es = [] := List.length_eq_zero_iff.1 (by omega)
    refine ⟨[⟨k, .arr sz es, [], none⟩], ⟨rfl, by simp [hS], by simp, by simp [Hu], by simp [Hu], by simp⟩, ?_⟩
    intro C hC
    have h1 := hC.io _ (List.mem_singleton.2 rfl)
    have h2 := hC.n
    simp only [Hu] at h2 ⊢
    refine ⟨?_, ?_⟩
    ·rw [R]; exact ⟨rfl, by omega, a, cap, hu, hcap, .inl ⟨h0, h1⟩⟩
    ·intro q hq; simp at hq; subst hq; exact .inl ⟨he, rfl, rfl⟩
   ·refine ⟨[⟨k, .arr sz es, S, some (b, p)⟩], ⟨rfl, by simp, by simp, by simp [Hu], by simp [Hu], by simp [hS]⟩, ?_⟩
    intro C hC
    have h1 := hC.io _ (List.mem_singleton.2 rfl)
    have h2 := hC.n
    simp only [Hu] at h2 ⊢
    have hst := hc.step hC.w hC.bad
    refine ⟨?_, ?_⟩
    ·rw [R]
     exact ⟨rfl, by omega, a, cap, hu, hcap, .inr ⟨h0, b, p, h1, by simpa using ha, by rw [hC.w]; simpa using hroom⟩⟩
    ·intro q hq; simp at hq; subst hq
     refine .inr ⟨b, p, us, S', rfl, hS, by rw [hC.w]; exact hb, ?_, by rw [hC.w]; exact hcells, hsz, RL.step (hst.at 0) _ _ _ (fun x _ => by show C.w.heap[x]? = Cp.w.heap[x]?; rw [hC.w]) hrl⟩
     rw [hC.w]
     intro j hj
     exact hroom j (Nat.lt_of_lt_of_le hj (Nat.mul_le_mul_right _ hcap))
 | .op cs, Cp, k, S, u, hc, hr => by
   rw [R] at hr
   obtain ⟨b, p, us, S', hS, hu, hb, hroom, hcells, hrl⟩ := hr
   obtain ⟨qs, h1, h2⟩ := thawL_ok cs (Cp.at 0) (k + 1) S' us hc.at hrl
   refine ⟨⟨k, .box (thawL cs (k + 1)).1, [b], some (b, p)⟩ :: qs, ⟨by simp [prs, Hu, ← h1.ps], by simp [h1.bs, hS], ?_, ?_, ?_, ?_⟩, ?_⟩
   ·rw [List.map_cons, List.nodup_cons]
    refine ⟨?_, h1.ids⟩
    intro hm
    obtain ⟨q, hq, e⟩ := List.mem_map.1 hm
    have := (h1.range q hq).1
    simp only at e; omega
   ·intro q hq
    simp only [Hu]
    rcases List.mem_cons.1 hq with rfl | hq
    ·have := h1.le; simp only; omega
    ·have := h1.range q hq; omega
   ·simp only [Hu]; have := h1.le; omega
   ·intro q hq
    rcases List.mem_cons.1 hq with rfl | hq
    ·intro b' p' e; cases e; simp
    ·exact h1.head q hq
   ·intro C hC
    obtain ⟨h3, h4⟩ := h2 C ⟨hC.w, fun c x hx => by (simp only [Ctx.at, Classical.not_imp] at hx; obtain ⟨rfl, hx⟩ := hx; exact hC.bad 0 x hx), fun q hq => hC.io q (by simp [hq]), hC.n⟩
    have h5 := hC.io _ (List.mem_cons_self ..)
    simp only [Hu]
    refine ⟨by rw [R]; exact ⟨rfl, b, p, h5, by simpa using hu⟩, ?_⟩
    intro q hq
    rcases List.mem_cons.1 hq with rfl | hq
    ·have e : (thawL cs (k + 1)).1.length = cs.length := by rw [← h3.length, ← hrl.length]
     exact ⟨b, p, us, rfl, rfl, by rw [hC.w]; exact hb, by rw [hC.w, e]; exact hroom, by rw [hC.w]; exact hcells, h3⟩
    ·exact h4 q hq
 | .agg cs, Cp, k, S, u, hc, hr => by
   rw [R] at hr
   obtain ⟨us, hu, hrl⟩ := hr
   obtain ⟨qs, h1, h2⟩ := thawL_ok cs Cp k S us hc hrl
   simp only [Hu]
   refine ⟨qs, h1, fun C hC => ?_⟩
   obtain ⟨h3, h4⟩ := h2 C hC
   exact ⟨by rw [R]; exact ⟨us, hu, h3⟩, h4⟩
 | .tup cs, Cp, k, S, u, hc, hr => by
   rw [R] at hr
   obtain ⟨us, hu, hrl⟩ := hr
   obtain ⟨qs, h1, h2⟩ := thawL_ok cs Cp k S us hc hrl
   simp only [Hu]
   refine ⟨qs, h1, fun C hC => ?_⟩
   obtain ⟨h3, h4⟩ := h2 C hC
   exact ⟨by rw [R]; exact ⟨us, hu, h3⟩, h4⟩
 | .fn f cs, Cp, k, S, u, hc, hr => by
   rw [R] at hr
   obtain ⟨us, hu, hrl⟩ := hr
   obtain ⟨qs, h1, h2⟩ := thawL_ok cs Cp k S us hc hrl
   simp only [Hu]
   refine ⟨qs, h1, fun C hC => ?_⟩
   obtain ⟨h3, h4⟩ := h2 C hC
   exact ⟨by rw [R]; exact ⟨us, hu, h3⟩, h4⟩
 | .bot, Cp, k, S, u, hc, hr => by
   have hS : S = [] := by simpa [R] using hr
   subst hS
   exact ⟨[], by simpa [Hu] using Gives.nil k, fun C hC => ⟨by simp [Hu, R], by simp⟩⟩
 | .v x, Cp, k, S, u, hc, hr => by
   have hS : S = [] := by simp only [R] at hr; exact hr.1
   subst hS
   exact ⟨[], by simpa [Hu] using Gives.nil k, fun C hC => ⟨by simp only [Hu]; exact R.step (hc.step hC.w hC.bad) _ _ _ (by simp) hr, by simp⟩⟩
 | .sl c sz es, Cp, k, S, u, hc, hr => by
   have hS : S = [] := by simp only [R] at hr; exact hr.1
   subst hS
   exact ⟨[], by simpa [Hu] using Gives.nil k, fun C hC => ⟨by simp only [Hu]; exact R.step (hc.step hC.w hC.bad) _ _ _ (by simp) hr, by simp⟩⟩
 | .vp c cs o, Cp, k, S, u, hc, hr => by
   have hS : S = [] := by simp only [R] at hr; exact hr.1
   subst hS
   exact ⟨[], by simpa [Hu] using Gives.nil k, fun C hC => ⟨by simp only [Hu]; exact R.step (hc.step hC.w hC.bad) _ _ _ (by simp) hr, by simp⟩⟩
 | .ls sz id off n, Cp, k, S, u, hc, hr => by
   simp only [R] at hr; rw [hc.n] at hr; omega
 | .lw sz id off n, Cp, k, S, u, hc, hr => by
   have hS : S = [] := by simp only [R] at hr; exact hr.1
   subst hS
   exact ⟨[], by simpa [Hu] using Gives.nil k, fun C hC => ⟨by simp only [Hu]; exact R.step (hc.step hC.w hC.bad) _ _ _ (by simp) hr, by simp⟩⟩
 | .lp sz id i o, Cp, k, S, u, hc, hr => by
   simp only [R] at hr; obtain ⟨_, b, p, h1, _⟩ := hr; rw [hc.io] at h1; cases h1
theorem thawL_ok : ∀ (ts : List AV) (Cp : Ctx) (k : Nat) (S : List Nat) (us : List Value), Closed Cp → RL Cp ts S us → ∃ qs, Gives qs (thawL ts k).2.1 S k (thawL ts k).2.2 ∧ ∀ C, Laid Cp C qs (thawL ts k).2.2 → RL C (thawL ts k).1 [] us ∧ ∀ q ∈ qs, bi C q.row q.bs q.pl
 | [], Cp, k, S, us, hc, hr => by
   rw [RL] at hr
   obtain ⟨rfl, rfl⟩ := hr
   exact ⟨[], by simpa [thawL] using Gives.nil k, fun C hC => ⟨by simp [thawL, RL], by simp⟩⟩
 | t :: ts, Cp, k, S, us, hc, hr => by
   rw [RL] at hr
   obtain ⟨S1, S2, u, us', rfl, rfl, h1, h2⟩ := hr
   obtain ⟨qs1, h3, h4⟩ := cG t Cp k S1 u hc h1
   obtain ⟨qs2, h5, h6⟩ := thawL_ok ts Cp (Hu t k).2.2 S2 us' hc h2
   simp only [thawL]
   refine ⟨qs1 ++ qs2, h3.append h5, fun C hC => ?_⟩
   obtain ⟨h7, h8⟩ := h4 C (hC.left h5.le)
   obtain ⟨h9, h10⟩ := h6 C hC.right
   refine ⟨by rw [RL]; exact ⟨[], [], u, us', rfl, rfl, h7, h9⟩, ?_⟩
   intro q hq
   rcases List.mem_append.1 hq with hq | hq
   ·exact h8 q hq
   ·exact h10 q hq
end
end Go.Proofs.Dev
