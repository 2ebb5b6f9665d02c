/- Contracts of the functions of the program over slots and rows, each proved against the program itself; no condition beyond those that each theorem names. -/
import Derived.Test.YtfeaicblocbapaaGreatE

set_option linter.unusedSimpArgs false
set_option linter.unusedVariables false

namespace Go.Proofs.Dev

theorem RL_bots {C : Ctx} : ∀ (n : Nat) {S : List Nat} {us : List Value}, RL C (List.replicate n .bot) S us → S = [] ∧ ∀ C', RL C' (List.replicate n .bot) [] us
  | 0, S, us, h => by
    rw [List.replicate_zero, RL] at h
    exact ⟨h.1, fun C' => by rw [List.replicate_zero, RL]; exact ⟨rfl, h.2⟩⟩
  | n + 1, S, us, h => by
    rw [List.replicate_succ, RL] at h
    obtain ⟨S1, S2, u, us', rfl, rfl, h1, h2⟩ := h
    rw [R] at h1
    obtain ⟨h3, h4⟩ := RL_bots n h2
    refine ⟨by rw [h1, h3]; rfl, fun C' => ?_⟩
    rw [List.replicate_succ, RL]
    exact ⟨[], [], u, us', rfl, rfl, by rw [R], h4 C'⟩

theorem SoundAt.frozen {P : Program} {f n : Nat} {as : List AV} {r : AV} (hS : ∀ C S us, RL C as S us → S = []) (h : SoundAt P f as r (List.replicate n .bot)) : SoundAt P f as (vw 0 r) (List.replicate n .bot) := by
  intro w forb us S hr hnd hsz hforb
  have hS0 : S = [] := hS _ _ _ hr
  subst hS0
  refine Calls.mono (h w forb us [] hr hnd hsz hforb) ?_
  rintro e w' ⟨v, S', he, hv, hnd', hmem, hk⟩
  rw [RL] at hv
  obtain ⟨S1, S2, u, us', rfl, hu, h1, h2⟩ := hv
  cases hu
  obtain ⟨rfl, h4⟩ := RL_bots n h2
  refine ⟨v, [], he, ?_, List.nodup_nil, by simp, hk⟩
  rw [RL]
  refine ⟨[], [], v, us, rfl, rfl, ?_, h4 _⟩
  refine R.open (c := 0) (vw_ok (C' := cout w' [] forb) 0 r (cout w' (S1 ++ []) forb) (fun _ => rfl) rfl ?_ S1 v h1 ?_)
  · intro d b _ hb
    match d, hb with
    | 0, hb =>
      intro hx
      rcases hx with hx | hx
      · cases hx
      · exact hb (.inr hx)
    | d + 1, hb => exact absurd trivial hb
  · intro x hx hbad
    rcases hbad with hbad | hbad
    · cases hbad
    · rcases (hmem x (by simp [hx])).2 with h5 | h5
      · have := hforb x hbad
        omega
      · cases h5

end Go.Proofs.Dev

namespace Go.Proofs.Dev

mutual
/-- Without views, places and rows. -/
def noV : AV → Bool
  | .bot => true
  | .v _ => true
  | .os _ es => noVL es
  | .op cs => noVL cs
  | .agg cs => noVL cs
  | .tup cs => noVL cs
  | .fn _ cs => noVL cs
  | _ => false
def noVL : List AV → Bool
  | [] => true
  | a :: as => noV a && noVL as
end

theorem noVL_append : ∀ (a b : List AV), noVL (a ++ b) = (noVL a && noVL b)
  | [], b => by simp [noVL]
  | x :: a, b => by simp [noVL, noVL_append a b, Bool.and_assoc]

theorem noV_cells (e : AV) (h : noV e = true) : noVL (cellsE e) = true := by
  cases e <;> simp_all [cellsE, noVL, noV]

theorem noVL_flat : ∀ (es : List AV), noVL es = true → noVL (flatE es) = true
  | [], _ => by simp [flatE, noVL]
  | e :: es, h => by
    simp only [noVL, Bool.and_eq_true] at h
    simp only [flatE, noVL_append, Bool.and_eq_true]
    exact ⟨noV_cells e h.1, noVL_flat es h.2⟩

mutual
theorem noV_ok {C C' : Ctx} (hw : C'.w = C.w) : ∀ (a : AV) (S : List Nat) (u : Value), noV a = true → R C a S u → R C' a S u
  | .bot, S, u, _, hr => by rw [R] at *; exact hr
  | .v x, S, u, _, hr => by rw [R] at *; exact hr
  | .os sz es, S, u, hn, hr => by
    rw [R] at *
    simp only [noV] at hn
    obtain ⟨a, cap, hu, hc, hr⟩ := hr
    refine ⟨a, cap, hu, hc, orR ?_ hr⟩
    rintro ⟨h0, b, p, us, S', rfl, ha, hb, hroom, hcells, hsz, hrl⟩
    exact ⟨h0, b, p, us, S', rfl, ha, by rw [hw]; exact hb, by rw [hw]; exact hroom, by rw [hw]; exact hcells, hsz, noVL_ok (C := C.at 0) (C' := C'.at 0) hw _ _ _ (noVL_flat es hn) hrl⟩
  | .op cs, S, u, hn, hr => by
    rw [R] at *
    simp only [noV] at hn
    obtain ⟨b, p, us, S', rfl, hu, hb, hroom, hcells, hrl⟩ := hr
    exact ⟨b, p, us, S', rfl, hu, by rw [hw]; exact hb, by rw [hw]; exact hroom, by rw [hw]; exact hcells, noVL_ok (C := C.at 0) (C' := C'.at 0) hw _ _ _ hn hrl⟩
  | .agg cs, S, u, hn, hr => by
    rw [R] at *
    simp only [noV] at hn
    obtain ⟨us, hu, hrl⟩ := hr
    exact ⟨us, hu, noVL_ok hw _ _ _ hn hrl⟩
  | .tup cs, S, u, hn, hr => by
    rw [R] at *
    simp only [noV] at hn
    obtain ⟨us, hu, hrl⟩ := hr
    exact ⟨us, hu, noVL_ok hw _ _ _ hn hrl⟩
  | .fn f cs, S, u, hn, hr => by
    rw [R] at *
    simp only [noV] at hn
    obtain ⟨us, hu, hrl⟩ := hr
    exact ⟨us, hu, noVL_ok hw _ _ _ hn hrl⟩
  | .sl .., S, u, hn, hr => by simp [noV] at hn
  | .vp .., S, u, hn, hr => by simp [noV] at hn
  | .ls .., S, u, hn, hr => by simp [noV] at hn
  | .lw .., S, u, hn, hr => by simp [noV] at hn
  | .lp .., S, u, hn, hr => by simp [noV] at hn
termination_by a => SizeOf.sizeOf a
decreasing_by all_goals (first | (have := sizeOf_flatE es; simp; omega) | (simp; done) | (simp; omega))
theorem noVL_ok {C C' : Ctx} (hw : C'.w = C.w) : ∀ (as : List AV) (S : List Nat) (us : List Value), noVL as = true → RL C as S us → RL C' as S us
  | [], S, us, _, hr => by rw [RL] at *; exact hr
  | a :: as, S, us, hn, hr => by
    rw [RL] at *
    simp only [noVL, Bool.and_eq_true] at hn
    obtain ⟨S1, S2, u, us', rfl, rfl, h1, h2⟩ := hr
    exact ⟨S1, S2, u, us', rfl, rfl, noV_ok hw _ _ _ hn.1 h1, noVL_ok hw _ _ _ hn.2 h2⟩
termination_by a => SizeOf.sizeOf a
decreasing_by all_goals (simp; omega)
end

theorem noVL_bots : ∀ n : Nat, noVL (List.replicate n .bot) = true
  | 0 => by simp [noVL]
  | n + 1 => by simp [List.replicate_succ, noVL, noV, noVL_bots n]

mutual
/-- Nothing that is owned. -/
def noO : AV → Bool
  | .bot => true
  | .v _ => true
  | .sl .. => true
  | .vp .. => true
  | .agg cs => noOL cs
  | .tup cs => noOL cs
  | .fn _ cs => noOL cs
  | _ => false
def noOL : List AV → Bool
  | [] => true
  | a :: as => noO a && noOL as
end

mutual
theorem noO_ok {C : Ctx} : ∀ (a : AV) (S : List Nat) (u : Value), noO a = true → R C a S u → S = []
  | .bot, S, u, _, hr => by rw [R] at hr; exact hr
  | .v x, S, u, _, hr => by rw [R] at hr; exact hr.1
  | .sl .., S, u, _, hr => by rw [R] at hr; exact hr.1
  | .vp .., S, u, _, hr => by rw [R] at hr; exact hr.1
  | .agg cs, S, u, hn, hr => by
    rw [R] at hr
    obtain ⟨us, _, hrl⟩ := hr
    exact noOL_ok cs S us (by simpa [noO] using hn) hrl
  | .tup cs, S, u, hn, hr => by
    rw [R] at hr
    obtain ⟨us, _, hrl⟩ := hr
    exact noOL_ok cs S us (by simpa [noO] using hn) hrl
  | .fn f cs, S, u, hn, hr => by
    rw [R] at hr
    obtain ⟨us, _, hrl⟩ := hr
    exact noOL_ok cs S us (by simpa [noO] using hn) hrl
  | .os .., S, u, hn, hr => by simp [noO] at hn
  | .op .., S, u, hn, hr => by simp [noO] at hn
  | .ls .., S, u, hn, hr => by simp [noO] at hn
  | .lw .., S, u, hn, hr => by simp [noO] at hn
  | .lp .., S, u, hn, hr => by simp [noO] at hn
theorem noOL_ok {C : Ctx} : ∀ (as : List AV) (S : List Nat) (us : List Value), noOL as = true → RL C as S us → S = []
  | [], S, us, _, hr => by rw [RL] at hr; exact hr.1
  | a :: as, S, us, hn, hr => by
    rw [RL] at hr
    simp only [noOL, Bool.and_eq_true] at hn
    obtain ⟨S1, S2, u, us', rfl, rfl, h1, h2⟩ := hr
    rw [noO_ok a S1 u hn.1 h1, noOL_ok as S2 us' hn.2 h2]
    rfl
end

theorem SoundAt.lift {P : Program} {f n : Nat} {as : List AV} {r : AV} (hS : ∀ C S us, RL C as S us → S = []) (hv : noV r = true) (h : SoundAt P f (vwL 0 as) r (List.replicate n .bot)) : SoundAt P f as r (List.replicate n .bot) := by
  intro w forb us S hr hnd hsz hforb
  have hS0 : S = [] := hS _ _ _ hr
  subst hS0
  have hin : RL (cin w [] fun _ => False) (vwL 0 as) [] us := by
    refine RL.open (c := 0) (vwL_ok (C' := cin w [] fun _ => False) 0 as (cin w [] forb) (fun _ => rfl) rfl ?_ [] us hr (by simp))
    intro d b _ _ hx
    rcases hx with hx | hx
    · cases hx
    · exact hx
  refine Calls.mono (h w (fun _ => False) us [] hin List.nodup_nil (by simp) (by simp)) ?_
  rintro e w' ⟨v, S', he, hvv, hnd', hmem, hk⟩
  refine ⟨v, S', he, ?_, hnd', hmem, hk⟩
  exact noVL_ok (C := cout w' S' fun _ => False) (C' := cout w' S' forb) rfl _ _ _ (by simp only [noVL, hv, noVL_bots n, Bool.and_true]) hvv

end Go.Proofs.Dev
