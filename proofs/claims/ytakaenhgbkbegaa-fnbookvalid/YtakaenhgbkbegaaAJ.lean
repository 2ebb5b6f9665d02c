/- Contracts of the functions of the program over slots and rows, each proved against the program itself; no condition beyond those that each theorem names. -/
import Derived.Test.YtakaenhgbkbegaaAH

set_option linter.unusedSimpArgs false
set_option linter.unusedVariables false

namespace Go.Proofs.Dev

def FinP (rs : List RV) (n m : Nat) (ms : List Bool) (r : AV) (ups : List AV) (e : AExit) (E : ES) (H : Heap) : Prop :=
  (e = .normal ∨ e = .ret) ∧ optK (resAV E H rs) fun a => optK (fo H a) fun x => x.1 = r ∧ optK (finL H (gets E (seqN n m)) ms) fun y => y.1 = ups ∧ (x.2 ++ y.2).Nodup

/-- What holds at the end gives what may be given back. -/
theorem fn_okP {P : Program} {md : Nat → List Bool} {f n : Nat} {rs : List RV} {ac : ACode} (hc : cFn P f n rs ac) {as : List AV} {ms : List Bool} {post : AV → List AV → Prop} (hn : as.length ≤ n) {F : AExit → ES → Heap → Prop} (hF : ∀ e E H, F e E H → ∃ r ups, post r ups ∧ FinP rs n as.length ms r ups e E H)
    (hk : awp P md ac F (iniE n as) (iniH as)) : SoundSet P f as post := by
  obtain ⟨fn, code, hfn, hbody, hnt, hres, hcode, hrs⟩ := hc
  intro w forb us S hr hnd hlt hforb
  have hul : us.length = as.length := hr.length
  obtain ⟨io, B, hrel⟩ := ini_ok hr hnd hlt hn (Array.replicate (n - us.length) undef) (by simp; omega)
  refine calls_of_wp hfn hbody ?_
  rw [hnt]
  have hE : RelE n us.toArray ⟨w, S, forb⟩ (iniE n as) (iniH as) io B { tmps := us.toArray ++ Array.replicate (n - us.toArray.size) undef, defers := [] } w := by
    refine ⟨by simp; omega, by simpa using hrel, rfl⟩
  refine awp_ok (g := ⟨w, S, forb⟩) hforb ac code hcode hE hk ?_
  intro e E' H' io' B' a' w' hA hR
  obtain ⟨r, ups, hpost, he, av0, hav, ⟨r0, ks1⟩, hfz, hr0, ⟨ups0, ks2⟩, hfin, hu0, hnd2⟩ := hF _ _ _ hA
  simp only at hr0 hu0
  subst hr0 hu0
  have hrel' := hR.rel
  have hgh := gets_ok hrel' (seqN n as.length) (fun t ht => by have := seqN_lt _ _ _ ht; simp; omega)
  have hus : ((seqN n as.length).map fun t => (a'.tmps ++ us.toArray).getD t undef) = us := by
    rw [seqN_map]
    apply List.ext_getElem
    · simp [hul]
    · intro i h1 h2
      simp only [List.getElem_map, List.getElem_range]
      have hs := hR.size
      have : n + i < (a'.tmps ++ us.toArray).size := by simp; omega
      simp [Array.getD, this, Array.getElem_append_right, hs, h2]
  rw [hus] at hgh
  obtain ⟨S2, f1, f2⟩ := finL_ok hrel' _ ms us ups0 ks2 hfin hgh
  have hrun := resAV_run (P := P) hrel' hR.size (Nat.le_add_right _ _) hres (allLt_ok hrs) hav
  obtain ⟨v, hv, hvr⟩ := hrun
  obtain ⟨S1, r1, r2, _⟩ := fo_ok hrel' _ r0 ks1 v hfz hvr
  have hsub : List.Sublist (S1 ++ S2) ((ks1 ++ ks2).flatMap B') := by rw [List.flatMap_append]; exact r2.append f2
  have hmem : ∀ x ∈ S1 ++ S2, ∃ k, x ∈ B' k := fun x hx => by obtain ⟨k, _, hk⟩ := mem_of_sub hsub hx; exact ⟨k, hk⟩
  have hst : Step ((ctx ⟨w, S, forb⟩ H' io' B' w').at 0) (cout w' (S1 ++ S2) forb) := by
    refine ⟨Nat.le_refl _, ?_, fun _ _ hx => by simp [Ctx.at] at hx, Nat.le_refl _, fun _ _ => rfl, fun _ _ _ hr => hr⟩
    intro c b _ hbad
    simp only [Ctx.at, Classical.not_imp] at hbad
    obtain ⟨rfl, hbad⟩ := hbad
    refine ⟨?_, rfl⟩
    show ¬ (b ∈ S1 ++ S2 ∨ forb b)
    rintro (h1 | h1)
    · exact hbad (.inl (hmem b h1))
    · exact hbad (.inr h1)
  have hpost' : ∃ v S', Ending.returned v = .returned v ∧ RL (cout w' S' forb) (r0 :: ups0) S' (v :: us) ∧ S'.Nodup ∧ (∀ x ∈ S', x < w'.heap.size ∧ (w.heap.size ≤ x ∨ x ∈ S)) ∧ Kept w.heap.size S w w' := by
    refine ⟨v, S1 ++ S2, rfl, ?_, hsub.nodup (hrel'.flat_nodup hnd2), ?_, hrel'.kept⟩
    · rw [RL]
      exact ⟨S1, S2, v, us, rfl, rfl, R.step hst _ _ _ (fun _ _ => rfl) r1, RL.step hst _ _ _ (fun _ _ => rfl) f1⟩
    · intro x hx
      obtain ⟨k, hk⟩ := hmem x hx
      exact ⟨hrel'.lt k x hk, hrel'.own k x hk⟩
  rcases he with rfl | rfl
  · exact ⟨hR.defers, v, hv, r0, ups0, hpost, v, S1 ++ S2, rfl, by
      rw [RL]
      exact ⟨S1, S2, v, us, rfl, rfl, R.step hst _ _ _ (fun _ _ => rfl) r1, RL.step hst _ _ _ (fun _ _ => rfl) f1⟩, hsub.nodup (hrel'.flat_nodup hnd2), fun x hx => by
      obtain ⟨k, hk⟩ := hmem x hx
      exact ⟨hrel'.lt k x hk, hrel'.own k x hk⟩, hrel'.kept⟩
  · exact ⟨hR.defers, v, hv, r0, ups0, hpost, v, S1 ++ S2, rfl, by
      rw [RL]
      exact ⟨S1, S2, v, us, rfl, rfl, R.step hst _ _ _ (fun _ _ => rfl) r1, RL.step hst _ _ _ (fun _ _ => rfl) f1⟩, hsub.nodup (hrel'.flat_nodup hnd2), fun x hx => by
      obtain ⟨k, hk⟩ := hmem x hx
      exact ⟨hrel'.lt k x hk, hrel'.own k x hk⟩, hrel'.kept⟩

theorem fn_okPA {P : Program} {md : Nat → List Bool} {f n : Nat} {rs : List RV} {ac : ACode} (hc : cFn P f n rs ac) {as : List AV} {ms : List Bool} {r : AV} {ups : List AV} (hn : as.length ≤ n)
    (hk : awp P md ac (FinP rs n as.length ms r ups) (iniE n as) (iniH as)) : SoundAt P f as r ups :=
  SoundSet.at (fn_okP hc hn (F := FinP rs n as.length ms r ups) (fun _ _ _ hf => ⟨r, ups, ⟨rfl, rfl⟩, hf⟩) hk)

attribute [simp] FinP

end Go.Proofs.Dev
