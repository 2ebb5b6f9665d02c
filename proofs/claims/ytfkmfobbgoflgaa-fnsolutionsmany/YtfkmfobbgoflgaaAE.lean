/- Contracts of the functions of the program over slots and rows, each proved against the program itself; no condition beyond those that each theorem names. -/
import Derived.Test.YtfkmfobbgoflgaaAD
import Derived.Deep.LoopGhost
import Derived.Orders
import Derived.WalkSpells
import Derived.Laws.Cover3

set_option linter.unusedSimpArgs false
set_option linter.unusedVariables false

namespace Go.Proofs.Dev
set_option linter.unusedSimpArgs false

section
variable {P : Program} {g : Env} {T : List AV} {H : Heap} {io : Nat → Option (Nat × Nat)} {B : Nat → List Nat} {w : World} {a : Act}

theorem arr2 {α : Type} {xs : Array α} (h : xs.size = 2) : ∃ x y, xs = #[x, y] := by
  obtain ⟨l⟩ := xs
  match l, h with
  | [x, y], _ => exact ⟨x, y, rfl⟩
  | [], h => simp at h
  | [_], h => simp at h
  | _ :: _ :: _ :: _, h => simp at h

theorem len_is {C : Ctx} {x av : AV} {u : Value} (hx : R C x [] u) (hop : aLen x = some av) : if isV x then ∃ s, u = .string s else ∃ a n c, u = .slice a n c := by
  cases x <;> simp only [aLen, reduceCtorEq] at hop <;> simp only [isV, if_true, Bool.false_eq_true, if_false]
  · rename_i x
    rw [R] at hx
    cases x <;> simp at hop
    exact ⟨_, hx.2⟩
  · rw [R] at hx; obtain ⟨_, a, c, hu, _⟩ := hx; exact ⟨a, _, c, hu⟩
  · rw [R] at hx; obtain ⟨_, _, a, c, hu, _⟩ := hx; exact ⟨a, _, c, hu⟩
  · rw [R] at hx; obtain ⟨_, a, c, hu, _⟩ := hx; exact ⟨a, _, c, hu⟩
  · rw [R] at hx; obtain ⟨a, c, hu, _⟩ := hx; exact ⟨a, _, c, hu⟩

def okCall : AK → Bool
  | .call .. | .callv .. | .pick | .nilq .. => true
  | _ => false

theorem cop_ok (h : Rel g T H io B a.tmps w) {o : Oper} {ms : List Bool} {k : AK} {xs : List Opd} (hc : cOp P o ms = some (k, xs)) (hk : okCall k = false) {av : AV} {H' : Heap} (hop : aop k (xs.map (ev T)) H = some (av, H')) :
    ORun P g T a.tmps H io B (execOp a.eval o) w av H' (nkind k) := by
  obtain ⟨dst, op, type, pos, after, guard⟩ := o
  cases op
  case move x =>
    simp only [cOp, Option.bind_eq_some_iff, Option.some.injEq, Prod.mk.injEq] at hc
    obtain ⟨o, ho, rfl, rfl⟩ := hc
    simp only [List.map_cons, List.map_nil, aop, Option.some.injEq, Prod.mk.injEq] at hop
    obtain ⟨rfl, rfl⟩ := hop
    exact ⟨.value _, _, w, io, B, by simp [execOp], .inl rfl, h, cO_ok h ho, fun _ => ⟨rfl, rfl, rfl, rfl, fun w2 => by simp [execOp]⟩⟩
  case assign x =>
    simp only [cOp, Option.bind_eq_some_iff, Option.some.injEq, Prod.mk.injEq] at hc
    obtain ⟨o, ho, rfl, rfl⟩ := hc
    simp only [List.map_cons, List.map_nil, aop, Option.some.injEq, Prod.mk.injEq] at hop
    obtain ⟨rfl, rfl⟩ := hop
    exact ⟨.value _, _, w, io, B, by simp [execOp], .inl rfl, h, cO_ok h ho, fun _ => ⟨rfl, rfl, rfl, rfl, fun w2 => by simp [execOp]⟩⟩
  case pick c x y =>
    simp only [cOp, Option.bind_eq_some_iff, Option.some.injEq, Prod.mk.injEq] at hc
    obtain ⟨_, _, _, _, _, _, rfl, rfl⟩ := hc
    cases hk
  case alloc t =>
    simp only [cOp, Option.bind_eq_some_iff, Option.some.injEq, Prod.mk.injEq] at hc
    obtain ⟨i, hi, z, hz, rfl, rfl⟩ := hc
    simp only [List.map_nil, aop, Option.some.injEq, Prod.mk.injEq] at hop
    obtain ⟨rfl, rfl⟩ := hop
    exact ORun.eff (alloc_ok h hi hz)
  case box t x =>
    simp only [cOp, Option.bind_eq_some_iff, Option.some.injEq, Prod.mk.injEq] at hc
    obtain ⟨o, ho, rfl, rfl⟩ := hc
    simp only [List.map_cons, List.map_nil, aop] at hop
    exact ORun.eff (box_ok h (cO_ok h ho) hop)
  case load t x =>
    simp only [cOp, Option.bind_eq_some_iff, Option.some.injEq, Prod.mk.injEq] at hc
    obtain ⟨d, hd, i, hi, o, ho, rfl, rfl⟩ := hc
    simp only [List.map_cons, List.map_nil, aop, Option.map_eq_some_iff, Prod.mk.injEq] at hop
    obtain ⟨r, hr, rfl, rfl⟩ := hop
    exact ORun.val1 h (load_ok h hd hi (cO_ok h ho) hr)
  case store t x y =>
    simp only [cOp, Option.bind_eq_some_iff, Option.some.injEq, Prod.mk.injEq] at hc
    obtain ⟨i, hi, o, ho, o2, ho2, rfl, rfl⟩ := hc
    simp only [List.map_cons, List.map_nil, aop, Option.map_eq_some_iff, Prod.mk.injEq] at hop
    obtain ⟨r, hr, rfl, rfl⟩ := hop
    obtain ⟨w', B', h1, h2⟩ := store_ok h hi (cO_ok h ho) (cO_ok h ho2) hr
    exact ⟨.skip, undef, w', io, B', by simp [execOp, h1], .inr ⟨rfl, rfl⟩, h2, by simp [R], fun hb => by cases hb⟩
  case nilCheck x =>
    simp only [cOp, Option.bind_eq_some_iff, Option.some.injEq, Prod.mk.injEq] at hc
    obtain ⟨o, ho, rfl, rfl⟩ := hc
    simp only [List.map_cons, List.map_nil, aop, Option.map_eq_some_iff, Prod.mk.injEq] at hop
    obtain ⟨r, hr, rfl, rfl⟩ := hop
    have hx := cO_ok h ho
    obtain ⟨rfl, _, ⟨p, hp⟩ | ⟨f, us, hp⟩⟩ := anil_ok hx hr
    · exact ⟨.value _, _, w, io, B, by simp [execOp, hp], .inl rfl, h, hp ▸ hx, fun _ => ⟨rfl, rfl, rfl, rfl, fun w2 => by simp [execOp, hp]⟩⟩
    · exact ⟨.value _, _, w, io, B, by simp [execOp, hp], .inl rfl, h, hp ▸ hx, fun _ => ⟨rfl, rfl, rfl, rfl, fun w2 => by simp [execOp, hp]⟩⟩
  case binOp op t x y yt =>
    simp only [cOp, Option.bind_eq_some_iff] at hc
    obtain ⟨d, hd, hc⟩ := hc
    split at hc
    · simp only [Option.bind_eq_some_iff, Option.some.injEq, Prod.mk.injEq] at hc
      obtain ⟨_, _, rfl, _⟩ := hc
      cases hk
    simp only [Option.bind_eq_some_iff, Option.some.injEq, Prod.mk.injEq] at hc
    obtain ⟨kd, hkd, o, ho, o2, ho2, rfl, rfl⟩ := hc
    simp only [List.map_cons, List.map_nil, aop, Option.map_eq_some_iff, Prod.mk.injEq] at hop
    obtain ⟨r, hr, rfl, rfl⟩ := hop
    exact ORun.val h (bin_ok hd hkd (cO_ok h ho) (cO_ok h ho2) hr)
  case unOp op t x =>
    simp only [cOp, Option.bind_eq_some_iff, Option.some.injEq, Prod.mk.injEq] at hc
    obtain ⟨o, ho, rfl, rfl⟩ := hc
    simp only [List.map_cons, List.map_nil, aop, Option.map_eq_some_iff, Prod.mk.injEq] at hop
    obtain ⟨r, hr, rfl, rfl⟩ := hop
    exact ORun.val h (un_ok (cO_ok h ho) hr)
  case convert s t x =>
    simp only [cOp, Option.bind_eq_some_iff, Option.some.injEq, Prod.mk.injEq] at hc
    obtain ⟨d0, hd0, d, hd, kk, hkk, o, ho, rfl, rfl⟩ := hc
    simp only [List.map_cons, List.map_nil, aop, Option.map_eq_some_iff, Prod.mk.injEq] at hop
    obtain ⟨r, hr, rfl, rfl⟩ := hop
    have hd' : d = .int kk := by cases d <;> simp [intD] at hkk; subst hkk; rfl
    exact ORun.val h (conv_ok hd0 (hd' ▸ hd) (cO_ok h ho) hr)
  case makeSlice t l c =>
    simp only [cOp, Option.bind_eq_some_iff] at hc
    obtain ⟨d, hd, e, he, i, hi, z, hz, o, ho, o2, ho2, hc⟩ := hc
    split at hc
    case isFalse => cases hc
    rename_i hzc
    cases hc
    have hd' : d = .slice e := by cases d <;> simp [slD] at he; subst he; rfl
    simp only [List.map_cons, List.map_nil, aop] at hop
    exact ORun.eff (make_ok h (hd' ▸ hd) hi hz (by simpa using hzc) (cO_ok h ho) (cO_ok h ho2) hop)
  case fieldAddr t x k =>
    simp only [cOp, Option.bind_eq_some_iff] at hc
    obtain ⟨d, hd, fs, hfs, f, hf, i, hi, o, ho, hc⟩ := hc
    split at hc
    case isTrue => cases hc
    rename_i h0
    cases hc
    have hd' : d = .struct fs := by cases d <;> simp [stD] at hfs; subst hfs; rfl
    simp only [List.map_cons, List.map_nil, aop, Option.map_eq_some_iff, Prod.mk.injEq] at hop
    obtain ⟨r, hr, rfl, rfl⟩ := hop
    obtain ⟨h1, h2⟩ := fadr_ok (hd' ▸ hd) hf hi (by simpa using h0) (cO_ok h ho) hr
    exact ORun.val h ⟨_, h1, h2⟩
  case field t x k =>
    simp only [cOp, Option.bind_eq_some_iff, Option.some.injEq, Prod.mk.injEq] at hc
    obtain ⟨d, hd, fs, hfs, f, hf, d', hd2, i, hi, o, ho, rfl, rfl⟩ := hc
    have hd' : d = .struct fs := by cases d <;> simp [stD] at hfs; subst hfs; rfl
    simp only [List.map_cons, List.map_nil, aop] at hop
    have hx := cO_ok h ho
    generalize ev T o = x' at hx hop
    cases x' <;> try (simp at hop; done)
    rename_i cs
    simp only [Option.map_eq_some_iff, Prod.mk.injEq] at hop
    obtain ⟨r, hr, rfl, rfl⟩ := hop
    exact ORun.val h (fld_ok (hd' ▸ hd) hf hd2 hi hx hr)
  case indexAddr t x y =>
    simp only [cOp, Option.bind_eq_some_iff] at hc
    obtain ⟨d, hd, hc⟩ := hc
    split at hc
    · rename_i n e har
      have hd' : d = .array n e := by cases d <;> simp [arD] at har; obtain ⟨rfl, rfl⟩ := har; rfl
      simp only [Option.bind_eq_some_iff] at hc
      obtain ⟨k, hnk, i, hi, o, ho, hc⟩ := hc
      split at hc
      case isFalse => cases hc
      rename_i hkn
      cases hc
      unfold natO at hnk
      split at hnk
      case h_2 => cases hnk
      rename_i kd m
      split at hnk
      case isFalse => cases hnk
      rename_i hm
      cases hnk
      simp only [List.map_cons, List.map_nil, aop, Option.map_eq_some_iff, Prod.mk.injEq] at hop
      obtain ⟨r, hr, rfl, rfl⟩ := hop
      obtain ⟨h1, h2⟩ := iadrArr_ok (kd := kd) (hd' ▸ hd) hi hm hkn (cO_ok h ho) hr
      exact ORun.val h ⟨_, h1, h2⟩
    simp only [Option.bind_eq_some_iff, Option.some.injEq, Prod.mk.injEq] at hc
    obtain ⟨e, he, i, hi, o, ho, o2, ho2, rfl, rfl⟩ := hc
    have hd' : d = .slice e := by cases d <;> simp [slD] at he; subst he; rfl
    simp only [List.map_cons, List.map_nil, aop, Option.map_eq_some_iff, Prod.mk.injEq] at hop
    obtain ⟨r, hr, rfl, rfl⟩ := hop
    exact ORun.val h (iadr_ok (hd' ▸ hd) hi (cO_ok h ho) (cO_ok h ho2) hr)
  case index t x y =>
    simp only [cOp, Option.bind_eq_some_iff] at hc
    obtain ⟨d, hd, o, ho, o2, ho2, hc⟩ := hc
    cases d <;> try (simp at hc; done)
    case array n e =>
      simp only [Option.bind_eq_some_iff, Option.some.injEq, Prod.mk.injEq] at hc
      obtain ⟨d', hd', i, hi, rfl, rfl⟩ := hc
      simp only [List.map_cons, List.map_nil, aop, Option.map_eq_some_iff, Prod.mk.injEq] at hop
      obtain ⟨r, hr, rfl, rfl⟩ := hop
      exact ORun.val h (idx_ok hd hd' hi (cO_ok h ho) (cO_ok h ho2) hr)
    case string =>
      simp only [Option.some.injEq, Prod.mk.injEq] at hc
      obtain ⟨rfl, rfl⟩ := hc
      simp only [List.map_cons, List.map_nil, aop, Option.map_eq_some_iff, Prod.mk.injEq] at hop
      obtain ⟨r, hr, rfl, rfl⟩ := hop
      exact ORun.val h (sidx_ok hd (cO_ok h ho) (cO_ok h ho2) hr)
  case extract x i =>
    simp only [cOp, Option.bind_eq_some_iff, Option.some.injEq, Prod.mk.injEq] at hc
    obtain ⟨o, ho, rfl, rfl⟩ := hc
    simp only [List.map_cons, List.map_nil, aop, Option.map_eq_some_iff, Prod.mk.injEq] at hop
    obtain ⟨r, hr, rfl, rfl⟩ := hop
    exact ORun.val h (extr_ok (cO_ok h ho) hr)
  case build t ps =>
    simp only [cOp, Option.bind_eq_some_iff, Option.some.injEq, Prod.mk.injEq] at hc
    obtain ⟨d, hd, i, hi, z, hz, pl, hpl, qs, hqs, os, hos, rfl, rfl⟩ := hc
    simp only [aop, Option.bind_eq_some_iff, Option.map_eq_some_iff, Prod.mk.injEq] at hop
    obtain ⟨zs, hzs, cs, hcs, rfl, rfl⟩ := hop
    have hr := cOs_ok h hos
    obtain ⟨e1, e2⟩ := partsIn_ok (a := a) (T := T) hqs hr hzs
    refine ORun.val h (build_any_ok hd hi hz hpl (qs := zs) ?_ ?_ hcs)
    · simpa using e1
    · intro k i v off size x hk hz
      refine e2 k i v off size x ?_ hz
      simpa using hk
  case buildSlice t n ps =>
    simp only [cOp, Option.bind_eq_some_iff] at hc
    obtain ⟨d, hd, e, he, i, hi, z, hz, os, hos, hc⟩ := hc
    split at hc
    case isFalse => cases hc
    rename_i hcond
    cases hc
    simp only [Bool.and_eq_true, beq_iff_eq, decide_eq_true_eq] at hcond
    obtain ⟨⟨h1, h2⟩, h3⟩ := hcond
    have hd' : d = .slice e := by cases d <;> simp [slD] at he; subst he; rfl
    simp only [aop] at hop
    have hr := cOs_ok h hos
    have hl : (xs.map (ev T)).length = n := by rw [← hr.length]; simp [h2]
    have hb := bsl_ok h (hd' ▸ hd) hi hz hr hop (by rw [hl]; exact h3)
    rw [hl] at hb
    have e : (ps.map fun (i, x) => (i, a.eval x)) = (seqFrom 0 ((ps.toList.map (·.2)).map a.eval)).toArray := by
      have := inSeq_ok a.eval 0 ps.toList h1
      apply Array.toList_inj.1
      simp only [Array.toList_map, List.map_map]
      exact this
    refine ORun.eff ?_
    show ∃ v w' io' B', (Instr.buildSlice t n (ps.map fun (i, x) => (i, a.eval x))).run P w = _ ∧ _
    rw [e]; exact hb
  case makeFunc fn first cap =>
    cases fn <;> try (simp [cOp] at hc; done)
    rename_i f
    simp only [cOp] at hc
    split at hc
    case isFalse => cases hc
    rename_i hfe
    simp only [Option.bind_eq_some_iff, Option.some.injEq, Prod.mk.injEq] at hc
    obtain ⟨os, hos, rfl, rfl⟩ := hc
    simp only [aop, Option.some.injEq, Prod.mk.injEq] at hop
    obtain ⟨rfl, rfl⟩ := hop
    have hf0 : first = #[] := by simpa using hfe
    subst hf0
    refine ORun.val h ⟨.func (.func f) #[] (cap.map a.eval), fun w => by simp [Instr.makeFunc], ?_⟩
    rw [R]
    exact ⟨(cap.toList.map a.eval), by rw [← List.map_toArray], cOs_ok h hos⟩
  case slice t x lo hi mx =>
    simp only [cOp, Option.bind_eq_some_iff] at hc
    obtain ⟨d, hd, o, ho, l, hl, hh, hhi, m, hm, hc⟩ := hc
    have hx := cO_ok h ho
    cases d <;> try (simp at hc; done)
    case slice e =>
      simp only [Option.bind_eq_some_iff] at hc
      obtain ⟨i, hi', hc⟩ := hc
      split at hc
      case isTrue => cases hc
      rename_i hcond
      cases hc
      simp only [List.map_cons, List.map_append, List.append_assoc, aop, Option.bind_eq_some_iff] at hop
      obtain ⟨bs, hbs, hop⟩ := hop
      obtain ⟨b1, r1, rfl, hb1, o1⟩ := cOo_ok h hl hbs
      obtain ⟨b2, r2, rfl, hb2, o2⟩ := cOo_ok h hhi hb1
      obtain ⟨b3, r3, rfl, hb3, o3⟩ := cOo_ok h hm (rest := []) (bs := []) (by simpa using hb2)
      simp only [bnds, Option.some.injEq] at hb3
      subst hb3
      simp only [Option.map_eq_some_iff, Prod.mk.injEq] at hop
      obtain ⟨r, hr, rfl, rfl⟩ := hop
      refine ORun.val h (slice_ok hd hi' rfl hx o1 o2 o3 ?_ ?_ hr)
      · intro hm3
        have e3 : mx.isSome = true := by cases mx <;> cases b3 <;> simp_all [OptR]
        have e2 : hi.isSome = true := by
          cases hi
          · rw [e3] at hcond; simp at hcond
          · rfl
        cases hi <;> cases b2 <;> simp_all [OptR]
      · intro hz
        simp only [Bool.and_eq_true] at hz
        obtain ⟨⟨z1, z2⟩, z3⟩ := hz
        refine ⟨by cases lo <;> simp_all, ?_, ?_⟩
        · unfold isZero at z2
          split at z2
          · rename_i kk; exact ⟨kk, rfl⟩
          · cases z2
        · unfold isZero at z3
          split at z3
          · rename_i kk; exact ⟨kk, rfl⟩
          · cases z3
    case string =>
      dsimp only at hc
      split at hc
      case isTrue => cases hc
      rename_i hmx
      have hmx : mx = none := by cases mx <;> simp at hmx; rfl
      subst hmx
      cases hc
      simp only [List.map_cons, List.map_append, List.append_assoc, aop, Option.bind_eq_some_iff] at hop
      obtain ⟨bs, hbs, hop⟩ := hop
      obtain ⟨b1, r1, rfl, hb1, o1⟩ := cOo_ok h hl hbs
      obtain ⟨b2, r2, rfl, hb2, o2⟩ := cOo_ok h hhi (rest := []) (bs := []) (by simpa using hb1)
      simp only [bnds, Option.some.injEq] at hb2
      subst hb2
      simp only [Option.map_eq_some_iff, Prod.mk.injEq] at hop
      obtain ⟨r, hr, rfl, rfl⟩ := hop
      exact ORun.val h (sslice_ok hd hx o1 o2 hr)
  case call c =>
    obtain ⟨callee, args, argTypes⟩ := c
    cases callee
    case invoke => simp [cOp] at hc
    case value f =>
      exfalso
      cases f <;> simp only [cOp] at hc
      case func f =>
        split at hc
        case isFalse => cases hc
        simp only [Option.bind_eq_some_iff, Option.some.injEq, Prod.mk.injEq] at hc
        obtain ⟨_, _, rfl, _⟩ := hc
        cases hk
      all_goals
        simp only [Option.bind_eq_some_iff, Option.some.injEq, Prod.mk.injEq] at hc
        obtain ⟨_, _, _, _, rfl, _⟩ := hc
        cases hk
    case builtin b =>
      cases b <;> try (simp [cOp] at hc; done)
      case len =>
        simp only [cOp] at hc
        split at hc
        case isFalse => cases hc
        rename_i h1
        simp only [Option.bind_eq_some_iff] at hc
        obtain ⟨d, hd, hc⟩ := hc
        split at hc
        case isFalse => cases hc
        rename_i h2
        simp only [Option.bind_eq_some_iff, Option.some.injEq, Prod.mk.injEq] at hc
        obtain ⟨os, hos, rfl, rfl⟩ := hc
        simp only [Bool.and_eq_true, beq_iff_eq] at h1 h2
        have hr := cOs_ok h hos
        obtain ⟨xs1, rfl⟩ : ∃ x, args = #[x] := Array.size_eq_one_iff.1 h1
        obtain ⟨t1, rfl⟩ : ∃ x, argTypes = #[x] := Array.size_eq_one_iff.1 h2.2
        simp only [List.map_cons, List.map_nil] at hr
        cases os with
        | nil => simp [cOs, Option.bind_eq_some_iff] at hos
        | cons o os =>
          have : os = [] := by
            have := hr.length
            simp at this; exact this
          subst this
          obtain ⟨u, hu, hr1⟩ := RL.one hr
          simp only [List.cons.injEq, and_true] at hu
          simp only [List.map_cons, List.map_nil, aop] at hop
          split at hop
          case isFalse => cases hop
          rename_i hstr
          simp only [Option.map_eq_some_iff, Prod.mk.injEq] at hop
          obtain ⟨r, hr2, rfl, rfl⟩ := hop
          have hd : P.underlying t1 = some d := hd
          have hs := len_is hr1 hr2
          obtain ⟨v, hv1, hv2⟩ := len_ok (ty := type) hd h2.1 hr1 hr2 (fun s hs1 => by
            rw [hstr] at hs
            cases d <;> simp [strD] at hs ⊢ <;> (obtain ⟨_, _, _, e⟩ := hs; rw [hs1] at e; cases e)) (fun p n c hs1 => by
            rw [hstr] at hs
            rintro rfl
            simp [strD] at hs
            obtain ⟨_, e⟩ := hs; rw [hs1] at e; cases e)
          have hrun : ∀ w, (execOp a.eval ⟨dst, .call ⟨.builtin .len, #[xs1], #[t1]⟩, type, pos, after, guard⟩).run P w = .ok (.value v) w := fun w => by simp [execOp, resolve, invoke, builtin, hu, hv1]
          exact ⟨.value v, v, w, io, B, hrun w, .inl rfl, h, hv2, fun _ => ⟨rfl, rfl, rfl, rfl, hrun⟩⟩
      case append =>
        simp only [cOp, Option.bind_eq_some_iff] at hc
        obtain ⟨d, hd, e, he, d2, hd2, e2, he2, i, hi, z, hz, hc⟩ := hc
        split at hc
        case isFalse => cases hc
        rename_i hcond
        simp only [Option.bind_eq_some_iff, Option.some.injEq, Prod.mk.injEq] at hc
        obtain ⟨os, hos, rfl, rfl⟩ := hc
        simp only [Bool.and_eq_true, beq_iff_eq] at hcond
        obtain ⟨⟨h1, h2⟩, h3⟩ := hcond
        have hr := cOts_ok h hos
        obtain ⟨x1, x2, rfl⟩ : ∃ x y, args = #[x, y] := arr2 h3
        obtain ⟨t1, t2, rfl⟩ : ∃ x y, argTypes = #[x, y] := arr2 h2
        have hd' : d = .slice e := by cases d <;> simp [slD] at he; subst he; rfl
        have hd2' : d2 = .slice e2 := by cases d2 <;> simp [slD] at he2; subst he2; rfl
        subst hd' hd2'
        match os, hos, hr, hop with
        | [o1, o2], hos, hr, hop =>
          simp only [List.map_cons, List.map_nil] at hr
          obtain ⟨u, v, hu, hr1, hr2⟩ := RL.two hr
          simp only [List.cons.injEq, and_true] at hu
          simp only [List.map_cons, List.map_nil, aop] at hop
          obtain ⟨r, w', io', B', a1, a2, a3⟩ := append_ok (ty := type) h hd hd2 hi hz h1 hr1 hr2 hop
          refine ⟨.value r, r, w', io', B', ?_, .inl rfl, a2, a3, fun hb => by cases hb⟩
          have a1 : (Builtin.append_ #[t1, t2] type #[u, v]).run P w = .ok r w' := a1
          simp [execOp, resolve, invoke, builtin, hu.1, hu.2, a1]
        | [], hos, hr, hop => exact absurd hr.length (by simp)
        | [_], hos, hr, hop => exact absurd hr.length (by simp)
        | _ :: _ :: _ :: _, hos, hr, hop => exact absurd hr.length (by simp)
      case copy =>
        simp only [cOp, Option.bind_eq_some_iff] at hc
        obtain ⟨d, hd, e, he, d2, hd2, e2, he2, i, hi, hc⟩ := hc
        split at hc
        case isFalse => cases hc
        rename_i hcond
        simp only [Option.bind_eq_some_iff, Option.some.injEq, Prod.mk.injEq] at hc
        obtain ⟨os, hos, rfl, rfl⟩ := hc
        simp only [Bool.and_eq_true, beq_iff_eq] at hcond
        obtain ⟨⟨h1, h2⟩, h3⟩ := hcond
        have hr := cOts_ok h hos
        obtain ⟨x1, x2, rfl⟩ : ∃ x y, args = #[x, y] := arr2 h3
        obtain ⟨t1, t2, rfl⟩ : ∃ x y, argTypes = #[x, y] := arr2 h2
        have hd' : d = .slice e := by cases d <;> simp [slD] at he; subst he; rfl
        subst hd'
        match os, hos, hr, hop with
        | [o1, o2], hos, hr, hop =>
          simp only [List.map_cons, List.map_nil] at hr
          obtain ⟨u, v, hu, hr1, hr2⟩ := RL.two hr
          simp only [List.cons.injEq, and_true] at hu
          simp only [List.map_cons, List.map_nil, aop] at hop
          obtain ⟨r, w', io', B', a1, a2, a3⟩ := copy_ok (tX := t2) (ty := type) h hd hi h1 hr1 hr2 hop
          refine ⟨.value r, r, w', io', B', ?_, .inl rfl, a2, a3, fun hb => by cases hb⟩
          have a1 : (Builtin.copy_ #[t1, t2] type #[u, v]).run P w = .ok r w' := a1
          simp [execOp, resolve, invoke, builtin, hu.1, hu.2, a1]
        | [], hos, hr, hop => exact absurd hr.length (by simp)
        | [_], hos, hr, hop => exact absurd hr.length (by simp)
        | _ :: _ :: _ :: _, hos, hr, hop => exact absurd hr.length (by simp)
      case min =>
        simp only [cOp] at hc
        split at hc
        case isFalse => cases hc
        rename_i h3
        simp only [Option.bind_eq_some_iff, Option.some.injEq, Prod.mk.injEq] at hc
        obtain ⟨os, hos, rfl, rfl⟩ := hc
        simp only [beq_iff_eq] at h3
        have hr := cOs_ok h hos
        obtain ⟨x1, x2, rfl⟩ : ∃ x y, args = #[x, y] := arr2 h3
        match os, hos, hr, hop with
        | [o1, o2], hos, hr, hop =>
          simp only [List.map_cons, List.map_nil] at hr
          obtain ⟨u, v, hu, hr1, hr2⟩ := RL.two hr
          simp only [List.cons.injEq, and_true] at hu
          simp only [List.map_cons, List.map_nil, aop, Option.map_eq_some_iff, Prod.mk.injEq] at hop
          obtain ⟨r, hr3, rfl, rfl⟩ := hop
          obtain ⟨z, a1, a2⟩ := min1_ok (P := P) (mn := true) hr1 hr2 hr3
          have hrun : ∀ w, (execOp a.eval ⟨dst, .call ⟨.builtin .min, #[x1, x2], argTypes⟩, type, pos, after, guard⟩).run P w = .ok (.value z) w := fun w => by
            have a1' : (Builtin.min_ argTypes type #[u, v]).run P w = .ok z w := a1 argTypes w
            simp [execOp, resolve, invoke, builtin, hu.1, hu.2, a1']
          exact ⟨.value z, z, w, io, B, hrun w, .inl rfl, h, a2, fun _ => ⟨rfl, rfl, rfl, rfl, hrun⟩⟩
        | [], hos, hr, hop => exact absurd hr.length (by simp)
        | [_], hos, hr, hop => exact absurd hr.length (by simp)
        | _ :: _ :: _ :: _, hos, hr, hop => exact absurd hr.length (by simp)
      case max =>
        simp only [cOp] at hc
        split at hc
        case isFalse => cases hc
        rename_i h3
        simp only [Option.bind_eq_some_iff, Option.some.injEq, Prod.mk.injEq] at hc
        obtain ⟨os, hos, rfl, rfl⟩ := hc
        simp only [beq_iff_eq] at h3
        have hr := cOs_ok h hos
        obtain ⟨x1, x2, rfl⟩ : ∃ x y, args = #[x, y] := arr2 h3
        match os, hos, hr, hop with
        | [o1, o2], hos, hr, hop =>
          simp only [List.map_cons, List.map_nil] at hr
          obtain ⟨u, v, hu, hr1, hr2⟩ := RL.two hr
          simp only [List.cons.injEq, and_true] at hu
          simp only [List.map_cons, List.map_nil, aop, Option.map_eq_some_iff, Prod.mk.injEq] at hop
          obtain ⟨r, hr3, rfl, rfl⟩ := hop
          obtain ⟨z, a1, a2⟩ := min1_ok (P := P) (mn := false) hr1 hr2 hr3
          have hrun : ∀ w, (execOp a.eval ⟨dst, .call ⟨.builtin .max, #[x1, x2], argTypes⟩, type, pos, after, guard⟩).run P w = .ok (.value z) w := fun w => by
            have a1' : (Builtin.max_ argTypes type #[u, v]).run P w = .ok z w := a1 argTypes w
            simp [execOp, resolve, invoke, builtin, hu.1, hu.2, a1']
          exact ⟨.value z, z, w, io, B, hrun w, .inl rfl, h, a2, fun _ => ⟨rfl, rfl, rfl, rfl, hrun⟩⟩
        | [], hos, hr, hop => exact absurd hr.length (by simp)
        | [_], hos, hr, hop => exact absurd hr.length (by simp)
        | _ :: _ :: _ :: _, hos, hr, hop => exact absurd hr.length (by simp)
  all_goals (simp [cOp] at hc; done)

end
end Go.Proofs.Dev

namespace Go.Proofs.Dev

structure AOper where
  dst : Option Nat
  k : AK
  xs : List Opd
  guard : Option (Nat × Bool)

abbrev ES := List (Nat × AV)

def get : ES → Nat → AV
  | [], _ => .bot
  | p :: E, i => if p.1 = i then p.2 else get E i

def toT (n : Nat) (E : ES) : List AV := (List.range n).map (get E)

def evE (E : ES) : Opd → AV
  | .t i => get E i
  | .c a => a
  | .f id => .fn id []

def putE (E : ES) (dst : Option Nat) (av : AV) : ES := match dst with
  | some d => (d, av) :: E
  | none => E

def purgeE : ES → ES
  | [] => []
  | p :: E => (p.1, purge p.2) :: purgeE E

theorem get_purgeE : ∀ (E : ES) (i : Nat), get (purgeE E) i = purge (get E i)
  | [], i => by simp [purgeE, get, purge]
  | p :: E, i => by simp only [purgeE, get]; split <;> simp [get_purgeE E i]

theorem toT_get {n : Nat} {E : ES} {i : Nat} (h : i < n) : (toT n E).getD i .bot = get E i := by simp [toT, h]

theorem toT_purge (n : Nat) (E : ES) : purgeL (toT n E) = toT n (purgeE E) := by
  apply List.ext_getElem?
  intro i
  rw [purgeL_get]
  simp only [toT, List.getElem?_map]
  cases h : (List.range n)[i]? with
  | none => rfl
  | some j => simp [get_purgeE]

theorem toT_put (n : Nat) (E : ES) (dst : Option Nat) (av : AV) : putT (toT n E) dst av = toT n (putE E dst av) := by
  cases dst with
  | none => rfl
  | some d =>
    simp only [putT, putE]
    apply List.ext_getElem?
    intro i
    rw [List.getElem?_set]
    by_cases hd : d = i
    · subst hd
      simp only [if_true, toT, List.length_map, List.length_range]
      by_cases hl : d < n
      · rw [if_pos hl]; simp [hl, get]
      · rw [if_neg hl]; simp [hl]
    · rw [if_neg hd]
      simp only [toT, List.getElem?_map]
      cases h : (List.range n)[i]? with
      | none => rfl
      | some j =>
        have : j = i := by
          rw [List.getElem?_range] at h
          · simpa using h.symm
          · rcases Nat.lt_or_ge i n with h1 | h1
            · exact h1
            · rw [List.getElem?_eq_none (by simpa using h1)] at h; cases h
        subst this
        simp [get, hd]

theorem toT_same {n : Nat} {E : ES} {s : Nat} {x : AV} (h : get E s = x) : toT n (putE E (some s) x) = toT n E := by
  apply List.ext_getElem?
  intro i
  simp only [toT, List.getElem?_map, putE]
  cases hi : (List.range n)[i]? with
  | none => rfl
  | some j =>
    simp only [Option.map_some, Option.some.injEq, get]
    split
    · rename_i e; subst e; exact h.symm
    · rfl

/-! What holds of the operations, one after another. -/
def optK {α : Type} (o : Option α) (K : α → Prop) : Prop := ∃ x, o = some x ∧ K x

def callAt (P : Program) (f : Nat) (ts : List AV) (C : AV → List AV → Prop) : Prop := ∃ post, SoundSet P f ts post ∧ ∀ r ups, post r ups → C r ups

def callNode (P : Program) (f : Nat) (ms : List Bool) (avs : List AV) (E : ES) (H : Heap) (dst : Option Nat) (K : ES → Heap → Prop) : Prop :=
  optK (ownL H avs ms) fun ks => ks.Nodup ∧ optK (treesL H (killAll ks H) ks.isEmpty avs ms) fun ts => callAt P f ts fun r ups =>
    optK (backL avs ms ups (thaw r H.length).2.2) fun p =>
      K (putE (if ks.isEmpty then E else purgeE E) dst (thaw r H.length).1) (setRows ((thaw r H.length).2.1 ++ p.1) (padN (p.2 - H.length) (killAll ks (if ks.isEmpty then H else purgeH H))))

/-- How arguments are handed: all to be read, where nothing is said. -/
def mdP : List Bool → List AV → List Bool
  | [], as => as.map fun _ => false
  | ms, _ => ms

def pickNode (c x y : AV) (K : AV → Prop) : Prop := ∃ b, c = .v (.bool b) ∧ (b = true → K x) ∧ (b = false → K y)

/-- A slice asked whether it is nil: a slice with elements is not; of one without nothing is known. -/
def nilqK (K : ES → Heap → Prop) (E : ES) (dst : Option Nat) (H : Heap) (ng : Bool) (v : AV) : Prop :=
  ∃ n, lenA v = some n ∧ (n ≠ 0 → K (putE E dst (.v (.bool ng))) H) ∧ (n = 0 → K (putE E dst (.v (.bool ng))) H ∧ K (putE E dst (.v (.bool (!ng)))) H)

def awpX (P : Program) (md : Nat → List Bool) (o : AOper) (E : ES) (H : Heap) (K : ES → Heap → Prop) : Prop :=
  match o.k, o.xs.map (evE E) with
  | .pick, [c, x, y] => pickNode c x y fun av => K (putE E o.dst av) H
  | .call f _, avs => callNode P f (mdP (md f) avs) avs E H o.dst K
  | .callv _, .fn f cs :: avs => okFn P f = true ∧ callNode P f (mdP (md f) (avs ++ cs)) (avs ++ cs) E H o.dst K
  | .callv _, _ => False
  | .nilq ng, [x] => nilqK K E o.dst H ng x
  | k, avs => optK (aop k avs H) fun r => K (putE E o.dst r.1) r.2

def awpOp (P : Program) (md : Nat → List Bool) (o : AOper) (E : ES) (H : Heap) (K : ES → Heap → Prop) : Prop :=
  match o.guard with
  | none => awpX P md o E H K
  | some (s, want) => match get E s with
    | .v (.bool b) => (b = want → awpX P md o (putE E (some s) (.v (.bool want))) H K) ∧ (b = !want → K (putE (putE E (some s) (.v (.bool (!want)))) o.dst (.v undef)) H)
    | .v (.tuple _) => K (putE E o.dst (.v undef)) H
    | _ => False

def awpOps (P : Program) (md : Nat → List Bool) : List AOper → (ES → Heap → Prop) → ES → Heap → Prop
  | [], K, E, H => K E H
  | o :: os, K, E, H => awpOp P md o E H (awpOps P md os K)

/-! The program's operations and these. -/
def tmpLt (n : Nat) : Operand → Bool
  | .tmp t => decide (t < n)
  | _ => true

def opdLt (n : Nat) : Opd → Bool
  | .t t => decide (t < n)
  | _ => true

def isSel : Op → Bool
  | .select .. => true
  | _ => false

def okOp (n : Nat) (o : Oper) (xs : List Opd) : Bool :=
  o.op.operands.all (tmpLt n) && xs.all (opdLt n) && !isSel o.op && (match o.dst with | some d => decide (d < n) | none => true)

def cOper (P : Program) (n : Nat) (ops : Array Oper) (o : Oper) : Option AOper :=
  (cOp P o []).bind fun kx =>
    if okOp n o kx.2 = true then
      match o.guard with
      | none => some ⟨o.dst, kx.1, kx.2, none⟩
      | some (j, want) => ((ops[j]?).bind (·.dst)).bind fun s => if s < n then some ⟨o.dst, kx.1, kx.2, some (s, want)⟩ else none
    else none

def cOpers (P : Program) (n : Nat) (ops : Array Oper) : List Oper → Option (List AOper)
  | [] => some []
  | o :: os => (cOper P n ops o).bind fun a => (cOpers P n ops os).bind fun as => some (a :: as)

structure RelE (n : Nat) (gh : Array Value) (g : Env) (E : ES) (H : Heap) (io : Nat → Option (Nat × Nat)) (B : Nat → List Nat) (a : Act) (w : World) : Prop where
  size : a.tmps.size = n
  rel : Rel g (toT (n + gh.size) E) H io B (a.tmps ++ gh) w
  defers : a.defers = []

section
variable {P : Program} {md : Nat → List Bool} {g : Env} {n : Nat} {gh : Array Value} {E : ES} {H : Heap} {io : Nat → Option (Nat × Nat)} {B : Nat → List Nat} {w : World} {a : Act}

def withGh (a : Act) (gh : Array Value) : Act := { a with tmps := a.tmps ++ gh }

theorem eval_gh (hs : a.tmps.size = n) {x : Operand} (hx : tmpLt n x = true) : (withGh a gh).eval x = a.eval x := by
  cases x <;> simp only [Act.eval, withGh]
  rename_i t
  simp only [tmpLt, decide_eq_true_eq] at hx
  have : t < a.tmps.size := by rw [hs]; exact hx
  simp [Array.getD, this, Array.getElem_append_left, Nat.lt_of_lt_of_le this (Nat.le_add_right _ _)]

theorem RelE.put (h : RelE n gh g E H io B a w) {dst : Option Nat} (hd : ∀ d, dst = some d → d < n) {av : AV} {u : Value} (hr : R (ctx g H io B w) av [] u) : RelE n gh g (putE E dst av) H io B (a.put dst u) w := by
  have h1 := h.rel.put dst hr
  rw [toT_put] at h1
  refine ⟨by cases dst <;> simp [Act.put, h.size], ?_, by cases dst <;> simp [Act.put, h.defers]⟩
  cases dst with
  | none => exact h1
  | some d =>
    have := hd d rfl
    have hsz := h.size
    have e : (a.tmps ++ gh).setIfInBounds d u = a.tmps.setIfInBounds d u ++ gh := by
      apply Array.ext_getElem?
      intro i
      simp only [Array.getElem?_setIfInBounds, Array.getElem?_append, Array.size_setIfInBounds, Array.size_append]
      by_cases hi : d = i
      · subst hi; simp [hsz, this]; omega
      · simp [hi]
    simp only [putV] at h1
    rw [e] at h1
    exact h1

end
end Go.Proofs.Dev

namespace Go.Proofs.Dev

section
variable {P : Program} {md : Nat → List Bool} {g : Env} {n : Nat} {gh : Array Value} {E : ES} {H : Heap} {io : Nat → Option (Nat × Nat)} {B : Nat → List Nat} {w : World} {a : Act}

theorem run_callfun {ρ : Operand → Value} {dst : Option Nat} {x : Operand} {args : Array Operand} {ats : Array TypeId} {ty : TypeId} {pos : String} {af : Array Edge} {gd : Option (Nat × Bool)} {f : Nat} {us : Array Value} (hf : ρ x = .func (.func f) #[] us) (ok : okFn P f = true) :
    (execOp ρ ⟨dst, .call ⟨.value x, args, ats⟩, ty, pos, af, gd⟩).run P w = .ok (.enter f (args.map ρ ++ us)) w := by
  unfold okFn at ok
  split at ok
  case h_2 => cases ok
  rename_i fn hfn
  simp only [Bool.and_eq_true, Bool.not_eq_true'] at ok
  obtain ⟨h1, h2⟩ := ok
  have h1' : ¬ fn.name = "runtime.NumGoroutine" := by simpa using h1
  have h3 : ¬ fn.body = none := by cases hb : fn.body <;> simp_all
  simp [execOp, resolve, Deferred.ofValue, hf, invoke, callFunc, hfn, h1', h3]

theorem cOp_pick {dst : Option Nat} {op : Op} {ty : TypeId} {pos : String} {af : Array Edge} {gd : Option (Nat × Bool)} {ms : List Bool} {xs : List Opd} (h : cOp P ⟨dst, op, ty, pos, af, gd⟩ ms = some (.pick, xs)) :
    ∃ c x y c' x' y', op = .pick c x y ∧ cO 1 c = some c' ∧ cO 1 x = some x' ∧ cO 1 y = some y' ∧ xs = [c', x', y'] := by
  cases op <;> (try (simp [cOp, Option.bind_eq_some_iff] at h; done))
  case pick c x y =>
    simp only [cOp, Option.bind_eq_some_iff, Option.some.injEq, Prod.mk.injEq, true_and] at h
    obtain ⟨c', h1, x', h2, y', h3, rfl⟩ := h
    exact ⟨c, x, y, c', x', y', rfl, h1, h2, h3, rfl⟩
  case binOp op t x y yt =>
    simp only [cOp, Option.bind_eq_some_iff] at h
    obtain ⟨d, _, h⟩ := h
    split at h <;> simp [Option.bind_eq_some_iff] at h
  case indexAddr t x y =>
    simp only [cOp, Option.bind_eq_some_iff] at h
    obtain ⟨d, _, h⟩ := h
    split at h <;> simp [Option.bind_eq_some_iff] at h
  case makeFunc fn first cap => cases fn <;> simp [cOp, Option.bind_eq_some_iff] at h
  case slice t x lo hi mx =>
    simp only [cOp, Option.bind_eq_some_iff] at h
    obtain ⟨d, _, _, _, _, _, _, _, _, _, h⟩ := h
    cases d <;> simp [Option.bind_eq_some_iff] at h
  case index t x y =>
    simp only [cOp, Option.bind_eq_some_iff] at h
    obtain ⟨d, _, _, _, _, _, h⟩ := h
    cases d <;> simp [Option.bind_eq_some_iff] at h
  case call c =>
    obtain ⟨callee, args, ats⟩ := c
    cases callee
    case invoke => simp [cOp] at h
    case builtin b => cases b <;> simp [cOp, Option.bind_eq_some_iff] at h
    case value x => cases x <;> simp [cOp, Option.bind_eq_some_iff] at h

theorem cOp_call {dst : Option Nat} {op : Op} {ty : TypeId} {pos : String} {af : Array Edge} {gd : Option (Nat × Bool)} {ms ms' : List Bool} {f : Nat} {xs : List Opd} (h : cOp P ⟨dst, op, ty, pos, af, gd⟩ ms = some (.call f ms', xs)) :
    ∃ args ats, op = .call ⟨.value (.func f), args, ats⟩ ∧ okFn P f = true ∧ cOts P args.toList ats.toList = some xs := by
  cases op <;> (try (simp [cOp, Option.bind_eq_some_iff] at h; done))
  case binOp op t x y yt =>
    simp only [cOp, Option.bind_eq_some_iff] at h
    obtain ⟨d, _, h⟩ := h
    split at h <;> simp [Option.bind_eq_some_iff] at h
  case indexAddr t x y =>
    simp only [cOp, Option.bind_eq_some_iff] at h
    obtain ⟨d, _, h⟩ := h
    split at h <;> simp [Option.bind_eq_some_iff] at h
  case makeFunc fn first cap => cases fn <;> simp [cOp, Option.bind_eq_some_iff] at h
  case slice t x lo hi mx =>
    simp only [cOp, Option.bind_eq_some_iff] at h
    obtain ⟨d, _, _, _, _, _, _, _, _, _, h⟩ := h
    cases d <;> simp [Option.bind_eq_some_iff] at h
  case index t x y =>
    simp only [cOp, Option.bind_eq_some_iff] at h
    obtain ⟨d, _, _, _, _, _, h⟩ := h
    cases d <;> simp [Option.bind_eq_some_iff] at h
  case call c =>
    obtain ⟨callee, args, ats⟩ := c
    cases callee
    case invoke => simp [cOp] at h
    case builtin b => cases b <;> simp [cOp, Option.bind_eq_some_iff] at h
    case value x =>
      cases x <;> (try (simp [cOp, Option.bind_eq_some_iff] at h; done))
      rename_i f'
      simp only [cOp] at h
      split at h
      case isFalse => cases h
      rename_i hok
      simp only [Option.bind_eq_some_iff, Option.some.injEq, Prod.mk.injEq, AK.call.injEq] at h
      obtain ⟨ys, h1, ⟨rfl, _⟩, rfl⟩ := h
      exact ⟨args, ats, rfl, hok, h1⟩

theorem cOp_callv {dst : Option Nat} {op : Op} {ty : TypeId} {pos : String} {af : Array Edge} {gd : Option (Nat × Bool)} {ms ms' : List Bool} {xs : List Opd} (h : cOp P ⟨dst, op, ty, pos, af, gd⟩ ms = some (.callv ms', xs)) :
    ∃ x args ats x' ys, op = .call ⟨.value x, args, ats⟩ ∧ cO 1 x = some x' ∧ cOts P args.toList ats.toList = some ys ∧ xs = x' :: ys := by
  cases op <;> (try (simp [cOp, Option.bind_eq_some_iff] at h; done))
  case binOp op t x y yt =>
    simp only [cOp, Option.bind_eq_some_iff] at h
    obtain ⟨d, _, h⟩ := h
    split at h <;> simp [Option.bind_eq_some_iff] at h
  case indexAddr t x y =>
    simp only [cOp, Option.bind_eq_some_iff] at h
    obtain ⟨d, _, h⟩ := h
    split at h <;> simp [Option.bind_eq_some_iff] at h
  case makeFunc fn first cap => cases fn <;> simp [cOp, Option.bind_eq_some_iff] at h
  case slice t x lo hi mx =>
    simp only [cOp, Option.bind_eq_some_iff] at h
    obtain ⟨d, _, _, _, _, _, _, _, _, _, h⟩ := h
    cases d <;> simp [Option.bind_eq_some_iff] at h
  case index t x y =>
    simp only [cOp, Option.bind_eq_some_iff] at h
    obtain ⟨d, _, _, _, _, _, h⟩ := h
    cases d <;> simp [Option.bind_eq_some_iff] at h
  case call c =>
    obtain ⟨callee, args, ats⟩ := c
    cases callee
    case invoke => simp [cOp] at h
    case builtin b => cases b <;> simp [cOp, Option.bind_eq_some_iff] at h
    case value x =>
      cases x
      case func f' =>
        simp only [cOp] at h
        split at h
        case isFalse => cases h
        simp [Option.bind_eq_some_iff] at h
      all_goals
        simp only [cOp, Option.bind_eq_some_iff, Option.some.injEq, Prod.mk.injEq] at h
        obtain ⟨x', h1, ys, h2, _, rfl⟩ := h
        exact ⟨_, args, ats, x', ys, rfl, h1, h2, rfl⟩

theorem cOp_nilq {dst : Option Nat} {op : Op} {ty : TypeId} {pos : String} {af : Array Edge} {gd : Option (Nat × Bool)} {ms : List Bool} {ng : Bool} {xs : List Opd} (h : cOp P ⟨dst, op, ty, pos, af, gd⟩ ms = some (.nilq ng, xs)) :
    ∃ t e x yt x', op = .binOp (if ng then .neq else .eql) t x (.const (.slice none 0 0)) yt ∧ P.underlying t = some (.slice e) ∧ cO 1 x = some x' ∧ xs = [x'] := by
  cases op <;> (try (simp [cOp, Option.bind_eq_some_iff] at h; done))
  case binOp op t x y yt =>
    simp only [cOp, Option.bind_eq_some_iff] at h
    obtain ⟨d, hd, h⟩ := h
    split at h
    · rename_i ng' hq
      simp only [Option.bind_eq_some_iff, Option.some.injEq, Prod.mk.injEq, AK.nilq.injEq] at h
      obtain ⟨x', h1, rfl, rfl⟩ := h
      unfold nilQ at hq
      split at hq
      · split at hq
        · cases hq; exact ⟨t, _, x, yt, x', rfl, hd, h1, rfl⟩
        · cases hq; exact ⟨t, _, x, yt, x', rfl, hd, h1, rfl⟩
        · cases hq
      · cases hq
    · simp [Option.bind_eq_some_iff] at h
  case indexAddr t x y =>
    simp only [cOp, Option.bind_eq_some_iff] at h
    obtain ⟨d, _, h⟩ := h
    split at h <;> simp [Option.bind_eq_some_iff] at h
  case makeFunc fn first cap => cases fn <;> simp [cOp, Option.bind_eq_some_iff] at h
  case slice t x lo hi mx =>
    simp only [cOp, Option.bind_eq_some_iff] at h
    obtain ⟨d, _, _, _, _, _, _, _, _, _, h⟩ := h
    cases d <;> simp [Option.bind_eq_some_iff] at h
  case index t x y =>
    simp only [cOp, Option.bind_eq_some_iff] at h
    obtain ⟨d, _, _, _, _, _, h⟩ := h
    cases d <;> simp [Option.bind_eq_some_iff] at h
  case call c =>
    obtain ⟨callee, args, ats⟩ := c
    cases callee
    case invoke => simp [cOp] at h
    case builtin b => cases b <;> simp [cOp, Option.bind_eq_some_iff] at h
    case value x => cases x <;> simp [cOp, Option.bind_eq_some_iff] at h

/-- What is known of a slice of so many elements. -/
theorem lenA_ok {C : Ctx} {x : AV} {u : Value} {n : Nat} (hx : R C x [] u) (hl : lenA x = some n) : ∃ a c, u = .slice a n c ∧ (n ≠ 0 → a.isNone = false) := by
  cases x <;> simp only [lenA, Option.some.injEq, reduceCtorEq] at hl <;> subst hl <;> rw [R] at hx
  · obtain ⟨_, a, c, hu, _, h⟩ := hx
    refine ⟨a, c, hu, fun hn => ?_⟩
    rcases h with h | ⟨b, p, us, rfl, _⟩
    · simp [h] at hn
    · rfl
  · obtain ⟨_, _, a, c, hu, hc, h⟩ := hx
    refine ⟨a, c, hu, fun hn => ?_⟩
    rcases h with h | ⟨_, b, p, _, rfl, _⟩
    · omega
    · rfl
  · obtain ⟨_, a, c, hu, hc, h⟩ := hx
    refine ⟨a, c, hu, fun hn => ?_⟩
    rcases h with h | ⟨_, b, p, _, rfl, _⟩
    · omega
    · rfl
  · obtain ⟨a, c, hu, hc, h⟩ := hx
    refine ⟨a, c, hu, fun hn => ?_⟩
    rcases h with h | ⟨_, b, p, us, S', hS, _⟩
    · omega
    · cases hS

theorem ev_evE {x : Opd} (h : opdLt n x = true) : ev (toT (n + gh.size) E) x = evE E x := by
  cases x <;> simp only [ev, evE]
  simp only [opdLt, decide_eq_true_eq] at h
  exact toT_get (Nat.lt_of_lt_of_le h (Nat.le_add_right _ _))

theorem callNode_ok (h : RelE n gh g E H io B a w) (hg : ∀ x, g.forb x → x < g.w0.heap.size) {dst : Option Nat} (hd : ∀ d, dst = some d → d < n) {f : Nat} {ms : List Bool} {avs : List AV} {us : List Value} (hr : RL (ctx g H io B w) avs [] us)
    {K : ES → Heap → Prop} (hk : callNode P f ms avs E H dst K) {next : Act → World → Prop} (hn : ∀ E' H' io' B' a' w', K E' H' → RelE n gh g E' H' io' B' a' w' → (∃ v, a' = a.put dst v) → next a' w') :
    Calls P f us.toArray w fun e w' => ∃ v, e = .returned v ∧ next (a.put dst v) w' := by
  obtain ⟨ks, hks, hnd, ts, hts, post, hs, hC⟩ := hk
  refine Calls.mono (call_ok h.rel hg hr hks hnd hts hs (C := fun r ps k' => K (putE (if ks.isEmpty then E else purgeE E) dst (thaw r H.length).1) (setRows ((thaw r H.length).2.1 ++ ps) (padN (k' - H.length) (killAll ks (if ks.isEmpty then H else purgeH H))))) (fun r ups hp => by
    obtain ⟨⟨ps, k'⟩, hb, hK⟩ := hC r ups hp
    exact ⟨ps, k', hb, hK⟩)) ?_
  rintro e w' ⟨r, ps, k', v, io', B', hK, rfl, h1, h2⟩
  refine ⟨v, rfl, hn _ _ io' B' _ w' hK ?_ ⟨v, rfl⟩⟩
  refine RelE.put (a := a) ⟨h.size, ?_, h.defers⟩ hd h2
  cases hke : ks.isEmpty with
  | true => simpa [hke] using h1
  | false => simp only [hke, Bool.false_eq_true, if_false] at h1 ⊢; rw [← toT_purge]; exact h1

/-- One operation, where it is wanted. -/
theorem awpX_ok (h : RelE n gh g E H io B a w) (hg : ∀ x, g.forb x → x < g.w0.heap.size) {ops : Array Oper} {o : Oper} {ao : AOper} (hc : cOper P n ops o = some ao) {K : ES → Heap → Prop} (hk : awpX P md ao E H K)
    {next : Act → World → Prop} {Q : Exit → Act → World → Prop} (hn : ∀ E' H' io' B' a' w', K E' H' → RelE n gh g E' H' io' B' a' w' → (∃ v, a' = a.put o.dst v) → next a' w') : o.wp P a w next Q := by
  simp only [cOper, Option.bind_eq_some_iff] at hc
  obtain ⟨⟨k, xs⟩, hop, hc⟩ := hc
  split at hc
  case isFalse => cases hc
  rename_i hcond
  simp only [okOp, Bool.and_eq_true, Bool.not_eq_true'] at hcond
  obtain ⟨⟨⟨c1, c2⟩, c3⟩, c4⟩ := hcond
  obtain ⟨e1, e2, e3⟩ : ao.dst = o.dst ∧ ao.k = k ∧ ao.xs = xs := by
    split at hc
    · cases hc; exact ⟨rfl, rfl, rfl⟩
    · simp only [Option.bind_eq_some_iff] at hc
      obtain ⟨s, _, hc⟩ := hc
      split at hc
      · cases hc; exact ⟨rfl, rfl, rfl⟩
      · cases hc
  have hdst : ∀ d, o.dst = some d → d < n := by
    intro d hd
    rw [hd] at c4; simpa using c4
  have hxs : xs.map (ev (toT (n + gh.size) E)) = xs.map (evE E) := List.map_congr_left fun x hx => ev_evE (List.all_eq_true.1 c2 x hx)
  have hrel : Rel g (toT (n + gh.size) E) H io B (withGh a gh).tmps w := h.rel
  have heval : execOp a.eval o = execOp (withGh a gh).eval o := execOp_congr o (by intro cs b he; rw [he] at c3; simp [isSel] at c3) fun x hx => (eval_gh h.size (Array.all_eq_true_iff_forall_mem.1 c1 x hx)).symm
  unfold awpX at hk
  rw [e1, e2, e3] at hk
  unfold Oper.wp
  rw [heval]
  have plain : okCall k = false → optK (aop k (xs.map (evE E)) H) (fun r => K (putE E o.dst r.1) r.2) → o.upon P a next Q ((execOp (withGh a gh).eval o).run P w) := by
    rintro hok ⟨⟨av, H'⟩, haop, hK⟩
    rw [← hxs] at haop
    obtain ⟨nx, v, w', io', B', r1, r2, r3, r4, _⟩ := cop_ok hrel hop hok haop
    rw [r1]
    have hn' := hn _ _ io' B' _ w' hK (RelE.put (a := a) ⟨h.size, r3, h.defers⟩ hdst r4) ⟨_, rfl⟩
    rcases r2 with rfl | ⟨rfl, rfl⟩
    · exact hn'
    · exact hn'
  have call : ∀ (f : Nat) (us : List Value) (avs : List AV), RL (ctx g H io B w) avs [] us → callNode P f (mdP (md f) avs) avs E H o.dst K → (execOp (withGh a gh).eval o).run P w = .ok (.enter f us.toArray) w → o.upon P a next Q ((execOp (withGh a gh).eval o).run P w) := by
    intro f us avs hr hcn hrun
    rw [hrun, Oper.upon_enter]
    refine Calls.mono (callNode_ok h hg hdst hr hcn hn) ?_
    rintro e w' ⟨v, rfl, hv⟩
    exact hv
  cases k
  case pick =>
    obtain ⟨dst, op, type, pos, after, guard⟩ := o
    obtain ⟨c, x, y, c', x', y', rfl, h1, h2, h3, rfl⟩ := cOp_pick hop
    simp only [List.map_cons, List.map_nil] at hk hxs
    obtain ⟨b, hb, k1, k2⟩ := hk
    simp only [List.cons.injEq, and_true] at hxs
    have r1 := cO_ok hrel h1
    have r2 := cO_ok hrel h2
    have r3 := cO_ok hrel h3
    rw [hxs.1, hb, R] at r1
    have hrun : (execOp (withGh a gh).eval ⟨dst, .pick c x y, type, pos, after, guard⟩).run P w = .ok (.value (if b then (withGh a gh).eval x else (withGh a gh).eval y)) w := by
      simp [execOp, r1.2, asBool]
    rw [hrun, Oper.upon_value]
    cases b with
    | true => exact hn _ _ io B _ w (k1 rfl) (h.put hdst (by rw [hxs.2.1] at r2; exact r2)) ⟨_, rfl⟩
    | false => exact hn _ _ io B _ w (k2 rfl) (h.put hdst (by rw [hxs.2.2] at r3; exact r3)) ⟨_, rfl⟩
  case nilq ng =>
    obtain ⟨dst, op, type, pos, after, guard⟩ := o
    obtain ⟨t, e, x, yt, x', rfl, hu, h1, rfl⟩ := cOp_nilq hop
    simp only [List.map_cons, List.map_nil] at hk hxs
    simp only [List.cons.injEq, and_true] at hxs
    obtain ⟨len, hlen, k1, k2⟩ := hk
    have r1 := cO_ok hrel h1
    rw [hxs] at r1
    obtain ⟨ad, c, hv, hn0⟩ := lenA_ok r1 hlen
    have hrun : (execOp (withGh a gh).eval ⟨dst, .binOp (if ng then .neq else .eql) t x (.const (.slice none 0 0)) yt, type, pos, after, guard⟩).run P w = .ok (.value (.bool (ad.isNone != ng))) w := by
      have eN : (withGh a gh).eval (.const (.slice none 0 0)) = .slice none 0 0 := rfl
      have e0 : ∀ bop : BinOp, (eqGuard bop t x (.const (.slice none 0 0)) (.slice ad len c) (.slice none 0 0)).run P w = .ok () w := fun bop => eqGuard_ok _ _ (fun _ => by simp) (by simp)
      cases ng with
      | true =>
        have := run_neq_slice_nil_any (P := P) w t e ad len c 0 0 hu
        simp only [execOp, hv, eN, if_true]
        simp [e0, this]
      | false =>
        have := run_equal_slice_nil (P := P) w t e ad len c hu
        simp only [execOp, hv, eN, Bool.false_eq_true, if_false, binOp]
        simp [e0, this]
    rw [hrun, Oper.upon_value]
    by_cases hz : len = 0
    · obtain ⟨k2, k3⟩ := k2 hz
      cases hnn : ad.isNone with
      | true => exact hn _ _ io B _ w k3 (by simpa using h.put hdst (av := .v (.bool (!ng))) (u := .bool (!ng)) (by rw [R]; exact ⟨rfl, rfl⟩)) ⟨_, rfl⟩
      | false => exact hn _ _ io B _ w k2 (by simpa using h.put hdst (av := .v (.bool ng)) (u := .bool ng) (by rw [R]; exact ⟨rfl, rfl⟩)) ⟨_, rfl⟩
    · rw [hn0 hz]
      exact hn _ _ io B _ w (k1 hz) (by simpa using h.put hdst (av := .v (.bool ng)) (u := .bool ng) (by rw [R]; exact ⟨rfl, rfl⟩)) ⟨_, rfl⟩
  case call f ms =>
    obtain ⟨dst, op, type, pos, after, guard⟩ := o
    obtain ⟨args, ats, rfl, hok, h1⟩ := cOp_call hop
    have hr := cOts_ok hrel h1
    rw [hxs] at hr
    exact call f _ _ hr hk (by
      have := run_callfun (P := P) (w := w) (ρ := (withGh a gh).eval) (dst := dst) (x := .func f) (args := args) (ats := ats) (ty := type) (pos := pos) (af := after) (gd := guard) (us := #[]) rfl hok
      rw [this, ← List.map_toArray]; simp)
  case callv ms =>
    obtain ⟨dst, op, type, pos, after, guard⟩ := o
    obtain ⟨x, args, ats, x', ys, rfl, h1, h2, rfl⟩ := cOp_callv hop
    simp only [List.map_cons] at hk hxs
    simp only [List.cons.injEq] at hxs
    have r1 := cO_ok hrel h1
    have hr := cOts_ok hrel h2
    rw [hxs.1] at r1
    rw [hxs.2] at hr
    generalize evE E x' = xv at hk r1
    cases xv <;> (try (exact hk.elim))
    rename_i f cs
    obtain ⟨hok, hk⟩ := hk
    rw [R] at r1
    obtain ⟨us, hu, r1⟩ := r1
    exact call f _ _ (hr.append r1) hk (by
      have := run_callfun (P := P) (w := w) (ρ := (withGh a gh).eval) (dst := dst) (x := x) (args := args) (ats := ats) (ty := type) (pos := pos) (af := after) (gd := guard) (us := us.toArray) hu hok
      rw [this]; simp)
  all_goals exact plain rfl hk

/-- Where an operation is skipped; where it is done: what its guard says. -/
theorem guard_ok (h : RelE n gh g E H io B a w) {ops : Array Oper} {o : Oper} {ao : AOper} (hc : cOper P n ops o = some ao) {K : ES → Heap → Prop} (hk : awpOp P md ao E H K) :
    (Region.wanted o (yielded ops a.tmps) = true ∧ ∃ E1, RelE n gh g E1 H io B a w ∧ awpX P md ao E1 H K) ∨
    (Region.wanted o (yielded ops a.tmps) = false ∧ ∃ E1, RelE n gh g E1 H io B (a.put o.dst undef) w ∧ K E1 H) := by
  have hao' := hc
  simp only [cOper, Option.bind_eq_some_iff] at hao'
  obtain ⟨kx, hkx, hao'⟩ := hao'
  split at hao'
  case isFalse => cases hao'
  rename_i hok
  simp only [okOp, Bool.and_eq_true] at hok
  have hdst : ∀ d, o.dst = some d → d < n := by
    intro d hd
    have := hok.2
    rw [hd] at this; simpa using this
  unfold awpOp at hk
  split at hao'
  · rename_i hgd
    cases hao'
    exact .inl ⟨by simp [Region.wanted, hgd], E, h, hk⟩
  · rename_i j want hgd
    simp only [Option.bind_eq_some_iff] at hao'
    obtain ⟨s, hs, hao'⟩ := hao'
    split at hao'
    case isFalse => cases hao'
    rename_i hsn
    cases hao'
    simp only at hk
    obtain ⟨oj, hoj, hds⟩ := hs
    obtain ⟨u, hu, hr⟩ := h.rel.get s
    rw [toT_get (Nat.lt_of_lt_of_le hsn (Nat.le_add_right _ _))] at hr
    have hsz := h.size
    have hlt : s < a.tmps.size := by rw [hsz]; exact hsn
    have hu' : a.tmps[s]? = some u := by
      rw [← hu]
      simp [Array.getD, hlt, Array.getElem_append_left, Nat.lt_of_lt_of_le hlt (Nat.le_add_right _ _)]
    split at hk
    · rename_i b hb
      rw [hb, R] at hr
      obtain ⟨_, rfl⟩ := hr
      have hy : yielded ops a.tmps j = some b := by simp [yielded, hoj, hds, hu']
      by_cases hbw : b = want
      · exact .inl ⟨by simp [Region.wanted, hgd, hy, hbw], _, ⟨h.size, by rw [toT_same (by rw [hb, hbw])]; exact h.rel, h.defers⟩, hk.1 hbw⟩
      · have hbn : b = !want := by cases b <;> cases want <;> simp_all
        exact .inr ⟨by simp [Region.wanted, hgd, hy, hbw], _, RelE.put (a := a) ⟨h.size, by rw [toT_same (by rw [hb, hbn])]; exact h.rel, h.defers⟩ hdst (by rw [R]; exact ⟨rfl, rfl⟩), hk.2 hbn⟩
    · rename_i vs hb
      rw [hb, R] at hr
      obtain ⟨_, rfl⟩ := hr
      have hy : yielded ops a.tmps j = none := by simp [yielded, hoj, hds, hu']
      exact .inr ⟨by simp [Region.wanted, hgd, hy], _, h.put hdst (by rw [R]; exact ⟨rfl, rfl⟩), hk⟩
    · exact hk.elim

theorem awpOp_ok (h : RelE n gh g E H io B a w) (hg : ∀ x, g.forb x → x < g.w0.heap.size) {ops : Array Oper} {i : Nat} {o : Oper} {ao : AOper} (ho : ops[i]? = some o) (hc : cOper P n ops o = some ao) {K : ES → Heap → Prop} (hk : awpOp P md ao E H K)
    {next : Act → World → Prop} {Q : Exit → Act → World → Prop} (hn : ∀ E' H' io' B' a' w', K E' H' → RelE n gh g E' H' io' B' a' w' → (∃ v, a' = a.put o.dst v) → next a' w') : wpOp P ops Q i next a w := by
  unfold wpOp
  simp only [ho]
  rcases guard_ok h hc hk with ⟨hw, E1, h1, hx⟩ | ⟨hw, E1, h1, hK⟩
  · rw [if_pos hw]; exact .inl (awpX_ok h1 hg hc hx hn)
  · rw [if_neg (by simp [hw])]; exact hn _ _ _ _ _ _ hK h1 ⟨_, rfl⟩

/-- A neutral operation yields one value, whatever the world. -/
theorem awpOp_neutral (h : RelE n gh g E H io B a w) {ops : Array Oper} {o : Oper} {ao : AOper} (hc : cOper P n ops o = some ao) (hnk : nkind ao.k = true) {K : ES → Heap → Prop} (hk : awpOp P md ao E H K) :
    ∃ v, Yields P ops o v a ∧ ∃ E1, RelE n gh g E1 H io B (a.put o.dst v) w ∧ K E1 H := by
  rcases guard_ok h hc hk with ⟨hw, E0, h0, hx⟩ | ⟨hw, E1, h1, hK⟩
  case inr => exact ⟨undef, .inr ⟨hw, rfl⟩, E1, h1, hK⟩
  simp only [cOper, Option.bind_eq_some_iff] at hc
  obtain ⟨⟨k, xs⟩, hop, hc⟩ := hc
  split at hc
  case isFalse => cases hc
  rename_i hcond
  simp only [okOp, Bool.and_eq_true, Bool.not_eq_true'] at hcond
  obtain ⟨⟨⟨c1, c2⟩, c3⟩, c4⟩ := hcond
  obtain ⟨e1, e2, e3⟩ : ao.dst = o.dst ∧ ao.k = k ∧ ao.xs = xs := by
    split at hc
    · cases hc; exact ⟨rfl, rfl, rfl⟩
    · simp only [Option.bind_eq_some_iff] at hc
      obtain ⟨s, _, hc⟩ := hc
      split at hc
      · cases hc; exact ⟨rfl, rfl, rfl⟩
      · cases hc
  have hdst : ∀ d, o.dst = some d → d < n := by
    intro d hd
    rw [hd] at c4; simpa using c4
  have hxs : xs.map (ev (toT (n + gh.size) E0)) = xs.map (evE E0) := List.map_congr_left fun x hx => ev_evE (List.all_eq_true.1 c2 x hx)
  have hrel : Rel g (toT (n + gh.size) E0) H io B (withGh a gh).tmps w := h0.rel
  have heval : execOp a.eval o = execOp (withGh a gh).eval o := execOp_congr o (by intro cs b he; rw [he] at c3; simp [isSel] at c3) fun x hx => (eval_gh h.size (Array.all_eq_true_iff_forall_mem.1 c1 x hx)).symm
  unfold awpX at hx
  rw [e1, e2, e3] at hx
  rw [e2] at hnk
  have plain : okCall k = false → optK (aop k (xs.map (evE E0)) H) (fun r => K (putE E0 o.dst r.1) r.2) → ∃ v, Yields P ops o v a ∧ ∃ E1, RelE n gh g E1 H io B (a.put o.dst v) w ∧ K E1 H := by
    rintro hok ⟨⟨av, H'⟩, haop, hK⟩
    rw [← hxs] at haop
    obtain ⟨nx, v, w', io', B', r1, r2, r3, r4, r5⟩ := cop_ok hrel hop hok haop
    obtain ⟨rfl, rfl, rfl, rfl, hrun⟩ := r5 hnk
    exact ⟨v, .inl ⟨hw, fun w2 => by rw [heval]; exact hrun w2⟩, _, RelE.put (a := a) ⟨h.size, r3, h.defers⟩ hdst r4, hK⟩
  cases k
  case pick =>
    obtain ⟨dst, op, type, pos, after, guard⟩ := o
    obtain ⟨c, x, y, c', x', y', rfl, h1, h2, h3, rfl⟩ := cOp_pick hop
    simp only [List.map_cons, List.map_nil] at hx hxs
    obtain ⟨b, hb, k1, k2⟩ := hx
    simp only [List.cons.injEq, and_true] at hxs
    have r1 := cO_ok hrel h1
    have r2 := cO_ok hrel h2
    have r3 := cO_ok hrel h3
    rw [hxs.1, hb, R] at r1
    have hrun : ∀ w, (execOp (withGh a gh).eval ⟨dst, .pick c x y, type, pos, after, guard⟩).run P w = .ok (.value (if b then (withGh a gh).eval x else (withGh a gh).eval y)) w := by
      intro w
      simp [execOp, r1.2, asBool]
    refine ⟨_, .inl ⟨hw, fun w2 => by rw [heval]; exact hrun w2⟩, ?_⟩
    cases b with
    | true => exact ⟨_, h0.put hdst (by rw [hxs.2.1] at r2; exact r2), k1 rfl⟩
    | false => exact ⟨_, h0.put hdst (by rw [hxs.2.2] at r3; exact r3), k2 rfl⟩
  case call f ms => cases hnk
  case callv ms => cases hnk
  case nilq ng => cases hnk
  all_goals exact plain rfl hx

end
end Go.Proofs.Dev

namespace Go.Proofs.Dev

section
variable {g : Env} {T : List AV} {H : Heap} {io : Nat → Option (Nat × Nat)} {B : Nat → List Nat} {tmps : Array Value} {w : World}

theorem flatE_set {es : List AV} {i : Nat} {e : AV} (h : i < es.length) : flatE (es.set i e) = flatE (es.take i) ++ (cellsE e ++ flatE (es.drop (i + 1))) := by
  rw [List.set_eq_take_append_cons_drop, if_pos h, flatE_append, flatE]

def takeH (H : Heap) (id i sz' : Nat) (es xs : List AV) (u : Value) : Heap := setRows [(id, .arr 1 (es.set i (.v u))), (H.length, .arr sz' xs)] (padN 1 (killAll [id] (purgeH H)))
def backH (H : Heap) (id k i sz' : Nat) (es ys : List AV) : Heap := setRows [(id, .arr 1 (es.set i (.os sz' ys)))] (padN 0 (killAll [id, k] (purgeH H)))

theorem Rel.take (h : Rel g T H io B tmps w) {id i sz' : Nat} {es xs : List AV} (hl : H[id]? = some (some (.arr 1 es))) (he : es[i]? = some (.os sz' xs)) :
    ∃ u io' B', Rel g (purgeL T) (takeH H id i sz' es xs u) io' B' tmps w ∧ R (ctx g (takeH H id i sz' es xs u) io' B' w) (.ls sz' H.length 0 xs.length) [] u := by
  have hidlt : id < H.length := Live.lt (r := .arr 1 es) hl
  have hilt : i < es.length := by
    rcases Nat.lt_or_ge i es.length with h1 | h1
    · exact h1
    · simp [h1] at he
  rcases h.rows id _ hl with ⟨h0, _⟩ | ⟨b, p, us, S, h1, h2, h3, h4, h5, h6, h7⟩
  · subst h0; simp at he
  obtain ⟨S1, S2, S3, us1, us2, us3, rfl, rfl, e1, e2, e3, e4, e5⟩ := rl_elem h6 h7 he
  obtain ⟨u, hu0, hu⟩ : ∃ u, us2 = [u] ∧ R ((ctx g H io B w).at 0) (.os sz' xs) S2 u := by
    have e4' : RL ((ctx g H io B w).at 0) [.os sz' xs] S2 us2 := e4
    rw [RL] at e4'
    obtain ⟨A1, A2, u, us', rfl, hus, a1, a2⟩ := e4'
    rw [RL] at a2
    obtain ⟨rfl, rfl⟩ := a2
    exact ⟨u, hus, by simpa using a1⟩
  subst hu0
  have hu' := hu
  rw [R, at_at] at hu'
  obtain ⟨a, cap, hu1, hcap, hu2⟩ := hu'
  obtain ⟨pl, hpl⟩ : ∃ pl : Option (Nat × Nat), (cap = 0 ∧ S2 = [] ∧ pl = none) ∨ 0 < cap ∧ ∃ b2 p2 us' S', S2 = b2 :: S' ∧ pl = some (b2, p2) ∧ a = some ⟨b2, p2, none⟩ ∧
      b2 < w.heap.size ∧ Room w b2 p2 (cap * sz') ∧ Cells w b2 p2 us' ∧ Sized sz' xs ∧ RL ((ctx g H io B w).at 0) (flatE xs) S' us' := by
    rcases hu2 with ⟨c0, hS2⟩ | ⟨c0, b2, p2, us', S', hS2, ha, hb2, hroom2, hcells2, hsz2, hrl2⟩
    · exact ⟨none, .inl ⟨c0, hS2, rfl⟩⟩
    · exact ⟨some (b2, p2), .inr ⟨c0, b2, p2, us', S', hS2, rfl, ha, hb2, hroom2, hcells2, hsz2, hrl2⟩⟩
  have hnd := h.nd id
  rw [h2] at hnd
  have hperm : List.Perm (b :: (S1 ++ (S2 ++ S3))) ((b :: (S1 ++ S3)) ++ S2) := by
    refine List.Perm.cons b ?_
    show List.Perm (S1 ++ (S2 ++ S3)) ((S1 ++ S3) ++ S2)
    rw [List.append_assoc]
    exact (List.perm_append_comm (l₁ := S2) (l₂ := S3)).append_left S1
  have hmemB : ∀ x, x ∈ (b :: (S1 ++ S3)) ++ S2 → x ∈ B id := fun x hx => by rw [h2]; exact hperm.mem_iff.2 hx
  let qs : List Q := [⟨id, .arr 1 (es.set i (.v u)), b :: (S1 ++ S3), some (b, p)⟩, ⟨H.length, .arr sz' xs, S2, pl⟩]
  have hqm : ∀ x, (∃ q ∈ qs, x ∈ q.bs) → x ∈ B id := by
    rintro x ⟨q, hq, hx⟩
    refine hmemB x ?_
    simp only [qs, List.mem_cons, List.not_mem_nil, or_false] at hq
    rcases hq with rfl | rfl
    · exact List.mem_append_left _ hx
    · exact List.mem_append_right _ hx
  have hset := h.settle true [id] (B id) (fun x hx => ⟨id, by simp, hx⟩) (by simp) w (Kept.refl _ _ _) qs 1 (by simp [qs]; omega) (by
      intro q hq
      simp only [qs, List.mem_cons, List.not_mem_nil, or_false] at hq
      rcases hq with rfl | rfl
      · exact .inl ⟨by simp, hidlt, h1.symm⟩
      · exact .inr ⟨Nat.le_refl _, Nat.lt_succ_self _⟩) (by
      show (qs.flatMap (·.bs)).Nodup
      simp only [qs, List.flatMap_cons, List.flatMap_nil, List.append_nil]
      exact hperm.nodup_iff.1 hnd) (by
      intro q hq x hx
      have hm := hqm x ⟨q, hq, hx⟩
      exact ⟨h.lt id x hm, .inr hm⟩) (by
      intro q hq b' p' e
      simp only [qs, List.mem_cons, List.not_mem_nil, or_false] at hq
      rcases hq with rfl | rfl
      · simp only [Option.some.injEq, Prod.mk.injEq] at e
        rw [← e.1]; simp
      · simp only at e
        rcases hpl with ⟨_, _, hp⟩ | ⟨_, b2, p2, us', S', hS2, hp, _⟩
        · rw [hp] at e; cases e
        · rw [hp] at e; cases e; rw [hS2]; simp) (by
      intro C' hw hbad hio hn q hq
      have hst : Step ((ctx g H io B w).at 0) (C'.at 0) := by
        refine ⟨by simp [Ctx.at, ctx, hw], ?_, fun _ _ hx => by simp [Ctx.at] at hx, Nat.le_refl _, fun _ _ => rfl, fun _ _ _ hr => by simpa [Ctx.at, ctx, hw] using hr⟩
        intro c x _ hx
        simp only [Ctx.at, Classical.not_imp] at hx ⊢
        obtain ⟨rfl, hx⟩ := hx
        refine ⟨⟨rfl, hbad x (fun hq => hx (.inl ⟨id, hqm x hq⟩)) hx⟩, by rw [hw]; rfl⟩
      have hh : ∀ x : Nat, (C'.at 0).w.heap[x]? = ((ctx g H io B w).at 0).w.heap[x]? := fun x => by show C'.w.heap[x]? = w.heap[x]?; rw [hw]
      simp only [qs, List.mem_cons, List.not_mem_nil, or_false] at hq
      rcases hq with rfl | rfl
      · refine .inr ⟨b, p, us1 ++ ([u] ++ us3), S1 ++ S3, rfl, rfl, by rw [hw]; exact h3, by rw [hw, List.length_set]; exact h4, by rw [hw]; exact h5, h6.set rfl, ?_⟩
        rw [flatE_set hilt]
        have m1 : RL (C'.at 0) (cellsE (.v u)) [] [u] := by
          show RL (C'.at 0) [.v u] [] [u]
          rw [RL]
          exact ⟨[], [], u, [], rfl, rfl, by rw [R]; exact ⟨rfl, rfl⟩, by rw [RL]; exact ⟨rfl, rfl⟩⟩
        exact (RL.step hst _ _ _ (fun x _ => hh x) e3).append (m1.append (RL.step hst _ _ _ (fun x _ => hh x) e5))
      · rcases hpl with ⟨c0, hS2, hp⟩ | ⟨c0, b2, p2, us', S', hS2, hp, ha, hb2, hroom2, hcells2, hsz2, hrl2⟩
        · have hx : xs = [] := List.length_eq_zero_iff.1 (by omega)
          exact .inl ⟨hx, hS2, hp⟩
        · refine .inr ⟨b2, p2, us', S', hp, hS2, by rw [hw]; exact hb2, ?_, by rw [hw]; exact hcells2, hsz2, RL.step hst _ _ _ (fun x _ => hh x) hrl2⟩
          rw [hw]
          intro j hj
          exact hroom2 j (Nat.lt_of_lt_of_le hj (Nat.mul_le_mul_right _ hcap)))
  obtain ⟨s1, s2, s3, s4⟩ := hset
  refine ⟨u, _, _, s1, ?_⟩
  have hk := s3 ⟨H.length, .arr sz' xs, S2, pl⟩ (by simp [qs])
  rw [R]
  refine ⟨rfl, ?_, a, cap, hu1, hcap, ?_⟩
  · have : (ctx g (takeH H id i sz' es xs u) (ioQ qs io) (bQ qs [id] B) w).n = H.length + 1 := s2
    omega
  · rcases hpl with ⟨c0, hS2, hp⟩ | ⟨c0, b2, p2, us', S', hS2, hp, ha, hb2, hroom2, hcells2, hsz2, hrl2⟩
    · exact .inl ⟨c0, by show ioQ qs io H.length = none; rw [← hp]; exact hk⟩
    · refine .inr ⟨c0, b2, p2, by show ioQ qs io H.length = _; rw [← hp]; exact hk, by simpa using ha, by simpa [ctx] using hroom2⟩

theorem Rel.giveBack (h : Rel g T H io B tmps w) {id k i sz' : Nat} {es ys : List AV} {u : Value} (hl : H[id]? = some (some (.arr 1 es))) (he : es[i]? = some (.v u)) (hk : H[k]? = some (some (.arr sz' ys))) (hne : k ≠ id)
    (hu : R (ctx g H io B w) (.ls sz' k 0 ys.length) [] u) : ∃ io' B', Rel g (purgeL T) (backH H id k i sz' es ys) io' B' tmps w := by
  have hidlt : id < H.length := Live.lt (r := .arr 1 es) hl
  have hilt : i < es.length := by
    rcases Nat.lt_or_ge i es.length with h1 | h1
    · exact h1
    · simp [h1] at he
  rcases h.rows id _ hl with ⟨h0, _⟩ | ⟨b, p, us, S, h1, h2, h3, h4, h5, h6, h7⟩
  · subst h0; simp at he
  obtain ⟨S1, S2, S3, us1, us2, us3, rfl, rfl, e1, e2, e3, e4, e5⟩ := rl_elem h6 h7 he
  obtain ⟨rfl, rfl⟩ : us2 = [u] ∧ S2 = [] := by
    have e4' : RL ((ctx g H io B w).at 0) [.v u] S2 us2 := e4
    rw [RL] at e4'
    obtain ⟨A1, A2, v, us', rfl, hus, a1, a2⟩ := e4'
    rw [RL] at a2
    rw [R] at a1
    obtain ⟨rfl, rfl⟩ := a2
    obtain ⟨rfl, rfl⟩ := a1
    exact ⟨hus, rfl⟩
  have hrk := h.rows k _ hk
  have hnd := h.nd id
  rw [h2] at hnd
  have hdj : ∀ x ∈ B k, x ∉ B id := fun x hx hx2 => hne (h.dj _ _ _ hx hx2)
  have hperm : List.Perm ((b :: (S1 ++ ([] ++ S3))) ++ B k) (b :: (S1 ++ (B k ++ S3))) := by
    refine List.Perm.cons b ?_
    show List.Perm ((S1 ++ ([] ++ S3)) ++ B k) (S1 ++ (B k ++ S3))
    rw [List.nil_append, List.append_assoc]
    exact (List.perm_append_comm (l₁ := S3) (l₂ := B k)).append_left S1
  have hmemB : ∀ x, x ∈ b :: (S1 ++ (B k ++ S3)) → x ∈ B id ∨ x ∈ B k := fun x hx => by
    have := hperm.mem_iff.2 hx
    rcases List.mem_append.1 this with h8 | h8
    · left; rw [h2]; exact h8
    · exact .inr h8
  let qs : List Q := [⟨id, .arr 1 (es.set i (.os sz' ys)), b :: (S1 ++ (B k ++ S3)), some (b, p)⟩]
  have hqm : ∀ x, (∃ q ∈ qs, x ∈ q.bs) → x ∈ B id ∨ x ∈ B k := by
    rintro x ⟨q, hq, hx⟩
    simp only [qs, List.mem_cons, List.not_mem_nil, or_false] at hq
    subst hq
    exact hmemB x hx
  have hset := h.settle true [id, k] (B id ++ B k) (fun x hx => by
      rcases List.mem_append.1 hx with h8 | h8
      · exact ⟨id, by simp, h8⟩
      · exact ⟨k, by simp, h8⟩) (by simp) w (Kept.refl _ _ _) qs 0 (by simp [qs]) (by
      intro q hq
      simp only [qs, List.mem_cons, List.not_mem_nil, or_false] at hq
      subst hq
      exact .inl ⟨by simp, hidlt, h1.symm⟩) (by
      show (qs.flatMap (·.bs)).Nodup
      simp only [qs, List.flatMap_cons, List.flatMap_nil, List.append_nil]
      refine hperm.nodup_iff.1 ?_
      rw [List.nodup_append]
      exact ⟨hnd, h.nd k, fun x hx y hy e => hdj y hy (by rw [← e, h2]; exact hx)⟩) (by
      intro q hq x hx
      rcases hqm x ⟨q, hq, hx⟩ with hm | hm
      · exact ⟨h.lt id x hm, .inr (List.mem_append_left _ hm)⟩
      · exact ⟨h.lt k x hm, .inr (List.mem_append_right _ hm)⟩) (by
      intro q hq b' p' e
      simp only [qs, List.mem_cons, List.not_mem_nil, or_false] at hq
      subst hq
      simp only [Option.some.injEq, Prod.mk.injEq] at e
      rw [← e.1]; simp) (by
      intro C' hw hbad hio hn q hq
      have hst : Step ((ctx g H io B w).at 0) (C'.at 0) := by
        refine ⟨by simp [Ctx.at, ctx, hw], ?_, fun _ _ hx => by simp [Ctx.at] at hx, Nat.le_refl _, fun _ _ => rfl, fun _ _ _ hr => by simpa [Ctx.at, ctx, hw] using hr⟩
        intro c x _ hx
        simp only [Ctx.at, Classical.not_imp] at hx ⊢
        obtain ⟨rfl, hx⟩ := hx
        refine ⟨⟨rfl, hbad x (fun hq => hx (.inl ?_)) hx⟩, by rw [hw]; rfl⟩
        rcases hqm x hq with h8 | h8
        · exact ⟨id, h8⟩
        · exact ⟨k, h8⟩
      have hh : ∀ x : Nat, (C'.at 0).w.heap[x]? = ((ctx g H io B w).at 0).w.heap[x]? := fun x => by show C'.w.heap[x]? = w.heap[x]?; rw [hw]
      simp only [qs, List.mem_cons, List.not_mem_nil, or_false] at hq
      subst hq
      refine .inr ⟨b, p, us1 ++ ([u] ++ us3), S1 ++ (B k ++ S3), rfl, rfl, by rw [hw]; exact h3, by rw [hw, List.length_set]; exact h4, by rw [hw]; exact h5, h6.set rfl, ?_⟩
      rw [flatE_set hilt]
      have m1 : RL (C'.at 0) (cellsE (.os sz' ys)) (B k) [u] := by
        show RL (C'.at 0) [.os sz' ys] (B k) [u]
        rw [RL]
        refine ⟨B k, [], u, [], by simp, rfl, ?_, by rw [RL]; exact ⟨rfl, rfl⟩⟩
        rw [R] at hu
        obtain ⟨_, _, a, cap, hu1, hcap, hu2⟩ := hu
        simp only [ctx] at hu2
        rw [R, at_at]
        refine ⟨a, cap, hu1, hcap, ?_⟩
        rcases hu2 with ⟨c0, hio0⟩ | ⟨c0, b2, p2, hi2, ha, hroom⟩
        · left
          refine ⟨c0, ?_⟩
          rcases hrk with ⟨_, hB, _⟩ | ⟨b', p', us', S', k1, _⟩
          · exact hB
          · rw [hio0] at k1; cases k1
        · right
          rcases hrk with ⟨_, _, k1⟩ | ⟨b', p', us', S', k1, k2, k3, k4, k5, k6, k7⟩
          · rw [hi2] at k1; cases k1
          · rw [hi2] at k1; cases k1
            simp only [Nat.zero_mul, Nat.add_zero] at ha hroom
            exact ⟨c0, b2, p2, us', S', k2, ha, by rw [show (C'.at 0).w = w from hw]; exact k3, by rw [show (C'.at 0).w = w from hw]; exact hroom, by rw [show (C'.at 0).w = w from hw]; exact k5, k6, RL.step hst _ _ _ (fun x _ => hh x) k7⟩
      exact (RL.step hst _ _ _ (fun x _ => hh x) e3).append (m1.append (RL.step hst _ _ _ (fun x _ => hh x) e5)))
  obtain ⟨s1, _, _, _⟩ := hset
  exact ⟨_, _, s1⟩

end
end Go.Proofs.Dev
