/- Contracts of the functions of the program over slots and rows, each proved against the program itself; no condition beyond those that each theorem names. -/
import Derived.Test.YtakaenhgbkbegaaGreatAI
import Derived.Test.YtakaenhgbkbegaaGreatAH

set_option linter.unusedSimpArgs false
set_option linter.unusedVariables false

namespace Go.Proofs.Dev

theorem xy_of {W x y : Int} (hx : 0 ≤ x) (hx2 : x < W) : (y * W + x) % W = x ∧ (y * W + x) / W = y := by
  have hW : W ≠ 0 := by omega
  rw [Int.add_comm (y * W) x]
  rw [Int.add_mul_emod_self_right, Int.emod_eq_of_lt hx hx2, Int.add_mul_ediv_right _ _ hW, Int.ediv_eq_zero_of_lt hx hx2, Int.zero_add]
  exact ⟨rfl, rfl⟩

theorem backI_back {w : Int} (h1 : 1 ≤ w) (h4 : w ≤ 4) : backI (backI w) = w ∧ 1 ≤ backI w ∧ backI w ≤ 4 := by
  unfold backI; omega

/-- There and back. -/
theorem step_back {W T k way : Int} (hW : 1 ≤ W) (h0 : 0 ≤ k) (h1 : k < W * T) (ht : 0 ≤ stepI W T k way) :
    stepI W T (stepI W T k way) (backI way) = k ∧ 1 ≤ way ∧ way ≤ 4 ∧ stepI W T k way ≠ k ∧ stepI W T k way < W * T := by
  have hr := stepI_range (T := T) (way := way) hW h0 h1
  obtain ⟨a1, a2, a3, a4, a5⟩ := cell_xy hW h0 h1
  rcases hr with hr | ⟨_, hlt, hw1, hw4⟩
  · omega
  refine ⟨?_, hw1, hw4, ?_, hlt⟩
  · generalize hx : k % W = x at *
    generalize hy : k / W = y at *
    have hk : k = y * W + x := a5
    have hw : way = 1 ∨ way = 2 ∨ way = 3 ∨ way = 4 := by omega
    rcases hw with rfl | rfl | rfl | rfl
    · have e : stepI W T k 1 = k + 1 := by
        unfold stepI at ht ⊢
        simp [hx] at ht ⊢
        split at ht
        · intro; omega
        · omega
      have hx1 : x < W - 1 := by
        unfold stepI at ht; simp [hx] at ht
        split at ht
        · assumption
        · omega
      have c := xy_of (W := W) (x := x + 1) (y := y) (by omega) (by omega)
      rw [e, show k + 1 = y * W + (x + 1) by omega]
      unfold stepI backI
      simp [c.1]
      rw [if_pos (by omega)]; omega
    · have hy1 : y < T - 1 := by
        unfold stepI at ht; simp [hy] at ht
        split at ht
        · assumption
        · omega
      have e : stepI W T k 2 = k + W := by unfold stepI; simp [hy]; intro h; omega
      have c := xy_of (W := W) (x := x) (y := y + 1) (by omega) (by omega)
      have hm : (y + 1) * W = y * W + W := by rw [Int.add_mul, Int.one_mul]
      rw [e, show k + W = (y + 1) * W + x by omega]
      unfold stepI backI
      simp [c.2]
      rw [if_pos (by omega)]; omega
    · have hx1 : 0 < x := by
        unfold stepI at ht; simp [hx] at ht
        split at ht
        · assumption
        · omega
      have e : stepI W T k 3 = k - 1 := by unfold stepI; simp [hx]; intro h; omega
      have c := xy_of (W := W) (x := x - 1) (y := y) (by omega) (by omega)
      rw [e, show k - 1 = y * W + (x - 1) by omega]
      unfold stepI backI
      simp [c.1]
      omega
    · have hy1 : 0 < y := by
        unfold stepI at ht; simp [hy] at ht
        split at ht
        · assumption
        · omega
      have e : stepI W T k 4 = k - W := by unfold stepI; simp [hy]; intro h; omega
      have c := xy_of (W := W) (x := x) (y := y - 1) (by omega) (by omega)
      have hm : (y - 1) * W = y * W - W := by rw [Int.sub_mul, Int.one_mul]
      rw [e, show k - W = (y - 1) * W + x by omega]
      unfold stepI backI
      simp [c.2]
      omega
  · unfold stepI
    split
    · omega
    split
    · omega
    split
    · omega
    split
    · omega
    · omega

def freeB (W T : Int) (cs : List Bool) (ls : List Int) (cell way : Int) : Bool :=
  decide (0 ≤ cell ∧ cell < cs.length ∧ 0 ≤ stepI W T cell way ∧ atb cs cell = true ∧ atb cs (stepI W T cell way) = true ∧ ati ls cell = 0 ∧ ati ls (stepI W T cell way) = 0)
def layI (W T : Int) (ls : List Int) (cell way : Int) : List Int := (ls.set cell.toNat way).set (stepI W T cell way).toNat (backI way)

theorem layI_length (W T : Int) (ls : List Int) (cell way : Int) : (layI W T ls cell way).length = ls.length := by simp [layI]

theorem ati_set {xs : List Int} {i k : Nat} {v : Int} (h : i < xs.length) : ati (xs.set i v) k = if k = i then v else ati xs k := by
  simp only [ati, Int.toNat_natCast, List.getD_eq_getElem?_getD, List.getElem?_set]
  by_cases e : i = k
  · subst e; simp [h]
  · rw [if_neg e, if_neg (fun e2 => e e2.symm)]

theorem lay_ok {W T : Int} {cs : List Bool} {ls : List Int} {cell way : Int} (hr : regB W T cs = true) (hl : laysB W T cs ls = true) (hf : freeB W T cs ls cell way = true) : laysB W T cs (layI W T ls cell way) = true := by
  obtain ⟨w1, w2, t1, t2, l1, _⟩ := regB_W hr
  simp only [freeB, decide_eq_true_eq] at hf
  obtain ⟨f0, f1, f2, f3, f4, f5, f6⟩ := hf
  obtain ⟨b1, b2, b3, b4, b5⟩ := step_back (T := T) w1 f0 (by omega) f2
  obtain ⟨k1, k2, k3⟩ := backI_back b2 b3
  simp only [laysB, Bool.and_eq_true, decide_eq_true_eq, allB_iff, layI_length] at hl ⊢
  obtain ⟨hlen, hall⟩ := hl
  refine ⟨hlen, fun k hk => ?_⟩
  have hc : cell.toNat < ls.length := by omega
  have hto : (stepI W T cell way).toNat < ls.length := by omega
  have at_ : ∀ j : Nat, ati (layI W T ls cell way) j = if j = (stepI W T cell way).toNat then backI way else if j = cell.toNat then way else ati ls j := by
    intro j
    unfold layI
    rw [ati_set (by simpa using hto), ati_set hc]
  have atI : ∀ j : Int, 0 ≤ j → ati (layI W T ls cell way) j = if j = stepI W T cell way then backI way else if j = cell then way else ati ls j := by
    intro j hj
    have := at_ j.toNat
    rw [show ((j.toNat : Nat) : Int) = j by omega] at this
    rw [this]
    by_cases e1 : j = stepI W T cell way
    · rw [if_pos (by omega), if_pos e1]
    · rw [if_neg (by omega), if_neg e1]
      by_cases e2 : j = cell
      · rw [if_pos (by omega), if_pos e2]
      · rw [if_neg (by omega), if_neg e2]
  have hkI := atI k (by omega)
  simp only [layAt, decide_eq_true_eq]
  by_cases e1 : (k : Int) = stepI W T cell way
  · right
    rw [if_pos e1] at hkI
    rw [hkI, e1, b1]
    refine ⟨k2, k3, f4, f0, f3, ?_⟩
    rw [atI cell f0, if_neg (fun e => b4 e.symm), if_pos rfl, k1]
  by_cases e2 : (k : Int) = cell
  · right
    rw [if_neg e1, if_pos e2] at hkI
    rw [hkI, e2]
    refine ⟨b2, b3, f3, f2, f4, ?_⟩
    rw [atI _ f2, if_pos rfl]
  rw [if_neg e1, if_neg e2] at hkI
  rw [hkI]
  have := hall k (by omega)
  simp only [layAt, decide_eq_true_eq] at this
  rcases this with h | ⟨g1, g2, g3, g4, g5, g6⟩
  · left; exact h
  right
  refine ⟨g1, g2, g3, g4, g5, ?_⟩
  have hb := (backI_back g1 g2).2
  rw [atI _ g4, if_neg (fun e => by rw [e] at g6; omega), if_neg (fun e => by rw [e] at g6; omega)]
  exact g6

end Go.Proofs.Dev

namespace Go.Proofs.Dev

def FinP (rs : List RV) (n m : Nat) (ms : List Bool) (r : AV) (ups : List AV) (e : AExit) (E : ES) (H : Heap) : Prop :=
  (e = .normal ∨ e = .ret) ∧ optK (resAV E H rs) fun a => optK (fo H a) fun x => x.1 = r ∧ optK (finL H (gets E (seqN n m)) ms) fun y => y.1 = ups ∧ (x.2 ++ y.2).Nodup

/-- What holds at the end gives what may be given back. -/
theorem fn_okP {P : Program} {md : Nat → List Bool} {f n : Nat} {rs : List RV} {ac : ACode} (hc : cFn P f n rs ac) {as : List AV} {ms : List Bool} {post : AV → List AV → Prop} (hn : as.length ≤ n) {F : AExit → ES → Heap → Prop} (hF : ∀ e E H, F e E H → ∃ r ups, post r ups ∧ FinP rs n as.length ms r ups e E H)
    (hk : awp P md ac F (iniE n as) (iniH as)) : SoundSet P f as post := by
  obtain ⟨fn, code, hfn, hbody, hnt, hres, hcode, hrs⟩ := hc
  intro w forb us S hr hnd hlt hforb
  have hul : us.length = as.length := hr.length
  obtain ⟨io, B, hrel⟩ := ini_ok hr hnd hlt hn (Array.replicate (n - us.length) undef) (by simp; omega)
  refine calls_of_wp hfn hbody ?_
  rw [hnt]
  have hE : RelE n us.toArray ⟨w, S, forb⟩ (iniE n as) (iniH as) io B { tmps := us.toArray ++ Array.replicate (n - us.toArray.size) undef, defers := [] } w := by
    refine ⟨by simp; omega, by simpa using hrel, rfl⟩
  refine awp_ok (g := ⟨w, S, forb⟩) hforb ac code hcode hE hk ?_
  intro e E' H' io' B' a' w' hA hR
  obtain ⟨r, ups, hpost, he, av0, hav, ⟨r0, ks1⟩, hfz, hr0, ⟨ups0, ks2⟩, hfin, hu0, hnd2⟩ := hF _ _ _ hA
  simp only at hr0 hu0
  subst hr0 hu0
  have hrel' := hR.rel
  have hgh := gets_ok hrel' (seqN n as.length) (fun t ht => by have := seqN_lt _ _ _ ht; simp; omega)
  have hus : ((seqN n as.length).map fun t => (a'.tmps ++ us.toArray).getD t undef) = us := by
    rw [seqN_map]
    apply List.ext_getElem
    · simp [hul]
    · intro i h1 h2
      simp only [List.getElem_map, List.getElem_range]
      have hs := hR.size
      have : n + i < (a'.tmps ++ us.toArray).size := by simp; omega
      simp [Array.getD, this, Array.getElem_append_right, hs, h2]
  rw [hus] at hgh
  obtain ⟨S2, f1, f2⟩ := finL_ok hrel' _ ms us ups0 ks2 hfin hgh
  have hrun := resAV_run (P := P) hrel' hR.size (Nat.le_add_right _ _) hres (allLt_ok hrs) hav
  obtain ⟨v, hv, hvr⟩ := hrun
  obtain ⟨S1, r1, r2, _⟩ := fo_ok hrel' _ r0 ks1 v hfz hvr
  have hsub : List.Sublist (S1 ++ S2) ((ks1 ++ ks2).flatMap B') := by rw [List.flatMap_append]; exact r2.append f2
  have hmem : ∀ x ∈ S1 ++ S2, ∃ k, x ∈ B' k := fun x hx => by obtain ⟨k, _, hk⟩ := mem_of_sub hsub hx; exact ⟨k, hk⟩
  have hst : Step ((ctx ⟨w, S, forb⟩ H' io' B' w').at 0) (cout w' (S1 ++ S2) forb) := by
    refine ⟨Nat.le_refl _, ?_, fun _ _ hx => by simp [Ctx.at] at hx, Nat.le_refl _, fun _ _ => rfl, fun _ _ _ hr => hr⟩
    intro c b _ hbad
    simp only [Ctx.at, Classical.not_imp] at hbad
    obtain ⟨rfl, hbad⟩ := hbad
    refine ⟨?_, rfl⟩
    show ¬ (b ∈ S1 ++ S2 ∨ forb b)
    rintro (h1 | h1)
    · exact hbad (.inl (hmem b h1))
    · exact hbad (.inr h1)
  have hpost' : ∃ v S', Ending.returned v = .returned v ∧ RL (cout w' S' forb) (r0 :: ups0) S' (v :: us) ∧ S'.Nodup ∧ (∀ x ∈ S', x < w'.heap.size ∧ (w.heap.size ≤ x ∨ x ∈ S)) ∧ Kept w.heap.size S w w' := by
    refine ⟨v, S1 ++ S2, rfl, ?_, hsub.nodup (hrel'.flat_nodup hnd2), ?_, hrel'.kept⟩
    · rw [RL]
      exact ⟨S1, S2, v, us, rfl, rfl, R.step hst _ _ _ (fun _ _ => rfl) r1, RL.step hst _ _ _ (fun _ _ => rfl) f1⟩
    · intro x hx
      obtain ⟨k, hk⟩ := hmem x hx
      exact ⟨hrel'.lt k x hk, hrel'.own k x hk⟩
  rcases he with rfl | rfl
  · exact ⟨hR.defers, v, hv, r0, ups0, hpost, v, S1 ++ S2, rfl, by
      rw [RL]
      exact ⟨S1, S2, v, us, rfl, rfl, R.step hst _ _ _ (fun _ _ => rfl) r1, RL.step hst _ _ _ (fun _ _ => rfl) f1⟩, hsub.nodup (hrel'.flat_nodup hnd2), fun x hx => by
      obtain ⟨k, hk⟩ := hmem x hx
      exact ⟨hrel'.lt k x hk, hrel'.own k x hk⟩, hrel'.kept⟩
  · exact ⟨hR.defers, v, hv, r0, ups0, hpost, v, S1 ++ S2, rfl, by
      rw [RL]
      exact ⟨S1, S2, v, us, rfl, rfl, R.step hst _ _ _ (fun _ _ => rfl) r1, RL.step hst _ _ _ (fun _ _ => rfl) f1⟩, hsub.nodup (hrel'.flat_nodup hnd2), fun x hx => by
      obtain ⟨k, hk⟩ := hmem x hx
      exact ⟨hrel'.lt k x hk, hrel'.own k x hk⟩, hrel'.kept⟩

theorem fn_okPA {P : Program} {md : Nat → List Bool} {f n : Nat} {rs : List RV} {ac : ACode} (hc : cFn P f n rs ac) {as : List AV} {ms : List Bool} {r : AV} {ups : List AV} (hn : as.length ≤ n)
    (hk : awp P md ac (FinP rs n as.length ms r ups) (iniE n as) (iniH as)) : SoundAt P f as r ups :=
  SoundSet.at (fn_okP hc hn (F := FinP rs n as.length ms r ups) (fun _ _ _ hf => ⟨r, ups, ⟨rfl, rfl⟩, hf⟩) hk)

attribute [simp] FinP

end Go.Proofs.Dev
