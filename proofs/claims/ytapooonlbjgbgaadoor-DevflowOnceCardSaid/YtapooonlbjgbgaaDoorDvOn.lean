/-
  The plain law of the statement DevflowOnce.
-/
import Derived.Test.YtapooonlbjgbgaaDoorDvPl
namespace Go.Proofs.YtapooonlbjgbgaaDoor.Dv
open Go.RowKit Go.Proofs.YtapooonlbjgbgaaDoor.Fo Go.Proofs.YtapooonlbjgbgaaDoor.Rf

/-- One flow, of which grants came out gr times; ap says whether someone approved. -/
def OnI (sc : List Bs) (gr : Nat) (ap : Bool) (m : Int) (st : Fs) : Prop :=
  ∃ x, st.l = [x] ∧ x.w = ⟨#[100]⟩ ∧ x.client = ⟨#[97, 112, 112]⟩ ∧ x.scopes = sc ∧ st.cap ≤ m ∧ gr ≤ 1 ∧ (gr = 1 → x.state = 3) ∧ (x.state = 0 ∨ x.state = 1 ∨ x.state = 2 ∨ x.state = 3) ∧ (x.state = 1 ∨ x.state = 3 → ap = true ∧ x.g.client = ⟨#[97, 112, 112]⟩ ∧ withinS x.g.scopes sc = true)
theorem OnI.cap {sc : List Bs} {gr : Nat} {ap : Bool} {m : Int} {st : Fs} (h : OnI sc gr ap m st) : st.cap ≤ m := by
  obtain ⟨x, _, _, _, _, h, _⟩ := h
  exact h
theorem OnI.gr {sc : List Bs} {gr : Nat} {ap : Bool} {m : Int} {st : Fs} (h : OnI sc gr ap m st) : gr ≤ 1 := by
  obtain ⟨x, _, _, _, _, _, h, _⟩ := h
  exact h
theorem OnI.le {sc : List Bs} {gr : Nat} {ap : Bool} {m m' : Int} {st : Fs} (h : OnI sc gr ap m st) (hm : m ≤ m') : OnI sc gr ap m' st := by
  obtain ⟨x, h1, h2, h3, h4, h5, h6⟩ := h
  exact ⟨x, h1, h2, h3, h4, Int.le_trans h5 hm, h6⟩
theorem on_cu : cuC ⟨#[66, 66, 66, 66, 45, 66, 66, 66, 66]⟩ = (⟨#[66, 66, 66, 66, 45, 66, 66, 66, 66]⟩, 0) := by kernel_rfl
theorem on_start {sc : List Bs} {st' : Fs} {k : Int} (h : sta ⟨1000000, 1, 1, []⟩ ⟨#[100]⟩ ⟨#[66, 66, 66, 66, 45, 66, 66, 66, 66]⟩ ⟨#[97, 112, 112]⟩ sc 0 = (st', k)) : (k = 0 → OnI sc 0 false 1 st') ∧ (k ≠ 0 → k = chkS sc) := by
  have he : stE ⟨1000000, 1, 1, []⟩ ⟨#[100]⟩ ⟨#[66, 66, 66, 66, 45, 66, 66, 66, 66]⟩ ⟨#[97, 112, 112]⟩ sc 0 = chkS sc := by
    unfold stE
    rw [on_cu, if_neg (by decide +kernel), if_neg (by decide)]
    by_cases hc : chkS sc = 0
    · rw [if_neg (by rw [hc]; decide), if_neg (by simp), if_neg (by simp), hc]
    · rw [if_pos hc]
  unfold sta at h
  rw [he, on_cu] at h
  by_cases hc : chkS sc = 0
  · rw [if_pos hc] at h
    injection h with h1 h2
    subst h1
    subst h2
    refine ⟨fun _ => ⟨newF ⟨1000000, 1, 1, []⟩ ⟨#[100]⟩ ⟨#[66, 66, 66, 66, 45, 66, 66, 66, 66]⟩ ⟨#[97, 112, 112]⟩ sc 0, rfl, rfl, rfl, rfl, Int.le_refl _, by decide, fun h => absurd h (by decide), Or.inl rfl, fun h => ?_⟩, fun h => absurd rfl h⟩
    rcases h with h | h <;> exact absurd h (by simp [newF])
  · rw [if_neg hc] at h
    injection h with h1 h2
    subst h2
    exact ⟨fun h => absurd h hc, fun _ => rfl⟩
theorem fn_some {st : Fs} {u : Bs} {now : Int} {i : Nat} {y : Fw} {e : Int} (h : fnF st u now = (some (i, y), e)) : st.l[i]? = some y ∧ y.state = 0 := by
  unfold fnF at h
  split at h
  · cases h
  · split at h
    · cases h
    · split at h
      · cases h
      · next x hx =>
        split at h
        · cases h
        · split at h
          · cases h
          · next hs =>
            injection h with h1 _
            injection h1 with h1
            injection h1 with h1 h2
            subst h1
            subst h2
            exact ⟨hx, by simpa using hs⟩
theorem one_at {st : Fs} {x y : Fw} {i : Nat} (h : st.l = [x]) (hy : st.l[i]? = some y) : i = 0 ∧ y = x := by
  rw [h] at hy
  match i, hy with
  | 0, hy => exact ⟨rfl, (Option.some.inj hy).symm⟩
  | j + 1, hy => simp at hy
theorem on_apr {sc : List Bs} {gr : Nat} {ap : Bool} {m : Int} {st st' : Fs} {u : Bs} {g : Gr} {now k : Int} (h : OnI sc gr ap m st) (hq : apr st u g now = (st', k)) : (k = 0 → OnI sc gr true m st') ∧ (k ≠ 0 → OnI sc gr ap m st') := by
  have hup : OnI sc gr true m st := by
    obtain ⟨x, h1, h2, h3, h4, h5, h6, h7, h8, h9⟩ := h
    exact ⟨x, h1, h2, h3, h4, h5, h6, h7, h8, fun e => ⟨rfl, (h9 e).2⟩⟩
  unfold apr at hq
  split at hq
  · next i y e hf =>
    obtain ⟨hy, hs⟩ := fn_some hf
    obtain ⟨x, h1, h2, h3, h4, h5, h6, h7, h8, h9⟩ := h
    obtain ⟨rfl, rfl⟩ := one_at h1 hy
    split at hq
    · injection hq with e1 e2
      subst e1
      subst e2
      exact ⟨fun h => absurd h (by decide), fun _ => ⟨y, h1, h2, h3, h4, h5, h6, h7, h8, h9⟩⟩
    · next hc =>
      split at hq
      · injection hq with e1 e2
        subst e1
        subst e2
        exact ⟨fun h => absurd h (by decide), fun _ => ⟨y, h1, h2, h3, h4, h5, h6, h7, h8, h9⟩⟩
      · next hw =>
        injection hq with e1 e2
        subst e1
        subst e2
        refine ⟨fun _ => ⟨{ y with state := 1, g := g }, by rw [h1]; rfl, h2, h3, h4, h5, h6, fun e => ?_, Or.inr (Or.inl rfl), fun _ => ⟨rfl, ?_, ?_⟩⟩, fun h => absurd rfl h⟩
        · have := h7 e
          rw [hs] at this
          exact absurd this (by decide)
        · exact (Decidable.not_not.1 hc).trans h3
        · rw [← h4]; simpa using hw
  · injection hq with e1 e2
    subst e1
    exact ⟨fun _ => hup, fun _ => h⟩
theorem on_den {sc : List Bs} {gr : Nat} {ap : Bool} {m : Int} {st : Fs} {u : Bs} {now : Int} (h : OnI sc gr ap m st) : OnI sc gr ap m (den st u now).1 := by
  unfold den
  split
  · next i y e hf =>
    obtain ⟨hy, hs⟩ := fn_some hf
    obtain ⟨x, h1, h2, h3, h4, h5, h6, h7, h8, h9⟩ := h
    obtain ⟨rfl, rfl⟩ := one_at h1 hy
    refine ⟨{ y with state := 2 }, by show st.l.set 0 _ = _; rw [h1]; rfl, h2, h3, h4, h5, h6, fun e => ?_, Or.inr (Or.inr (Or.inl rfl)), fun e => ?_⟩
    · have := h7 e
      rw [hs] at this
      exact absurd this (by decide)
    · rcases e with e | e <;> exact absurd e (by simp)
  · exact h
theorem on_pol {sc : List Bs} {gr : Nat} {ap : Bool} {m : Int} {st st' : Fs} {d c : Bs} {now k : Int} {g : Gr} (h : OnI sc gr ap m st) (hq : pol st d c now = (st', (g, k))) :
    (k ≠ 0 → OnI sc gr ap (m + 5) st') ∧ (k = 0 → gr = 0 ∧ ap = true ∧ d = ⟨#[100]⟩ ∧ c = ⟨#[97, 112, 112]⟩ ∧ g.client = ⟨#[97, 112, 112]⟩ ∧ withinS g.scopes sc = true ∧ OnI sc 1 ap (m + 5) st') := by
  unfold pol at hq
  split at hq
  · injection hq with e1 e2
    injection e2 with e2 e3
    subst e1
    subst e3
    exact ⟨fun _ => h.le (by omega), fun h => absurd h (by decide)⟩
  · next i hi =>
    obtain ⟨z, hz, hzw⟩ := cdI_some hi
    rw [hz] at hq
    obtain ⟨x, h1, h2, h3, h4, h5, h6, h7, h8, h9⟩ := h
    obtain ⟨rfl, rfl⟩ := one_at h1 hz
    simp only at hq
    injection hq with e1 e2
    injection e2 with e2 e3
    have hcap : (if poE z c now = 24 then st.cap + 5 else st.cap) ≤ m + 5 := by split <;> omega
    constructor
    · intro hk
      rw [e3] at e1
      have hk2 : poE z c now ≠ 0 := by rw [e3]; exact hk
      have hst : (poX z c now).state = z.state ∧ (poX z c now).w = z.w ∧ (poX z c now).client = z.client ∧ (poX z c now).scopes = z.scopes ∧ (poX z c now).g = z.g := by
        unfold poX
        split
        · exact ⟨rfl, rfl, rfl, rfl, rfl⟩
        · exact ⟨rfl, rfl, rfl, rfl, rfl⟩
      rw [← e1]
      refine ⟨poX z c now, by show st.l.set 0 _ = _; rw [h1]; rfl, hst.2.1.trans h2, hst.2.2.1.trans h3, hst.2.2.2.1.trans h4, ?_, h6, ?_, ?_, ?_⟩
      · rw [← e3]; exact hcap
      · intro e; rw [hst.1]; exact h7 e
      · rw [hst.1]; exact h8
      · rw [hst.1, hst.2.2.2.2]; exact h9
    · intro hk
      rw [e3, hk] at e1 e2
      have hp : poE z c now = 0 := by rw [e3, hk]
      have hx : poX z c now = { slo z now with state := 3 } := by
        unfold poX
        rw [hp, if_neg (by decide), if_pos rfl]
      have hs1 : z.state = 1 ∧ c = z.client := by
        unfold poE at hp
        split at hp
        · exact absurd hp (by decide)
        · next hc =>
          split at hp
          · exact absurd hp (by decide)
          · split at hp
            · exact absurd hp (by decide)
            · split at hp
              · exact absurd hp (by decide)
              · next s0 =>
                split at hp
                · exact absurd hp (by decide)
                · next s2 =>
                  split at hp
                  · exact absurd hp (by decide)
                  · next s3 => exact ⟨by omega, Decidable.not_not.1 hc⟩
      have h99 := h9 (Or.inl hs1.1)
      have hg : g = z.g := by rw [← e2, if_pos rfl]
      have hgr : gr = 0 := by
        rcases Nat.eq_zero_or_pos gr with h | h
        · exact h
        · have := h7 (by omega)
          rw [hs1.1] at this
          exact absurd this (by decide)
      refine ⟨hgr, h99.1, hzw.symm.trans h2, hs1.2.trans h3, by rw [hg]; exact h99.2.1, by rw [hg]; exact h99.2.2, ?_⟩
      rw [← e1, hx]
      refine ⟨{ slo z now with state := 3 }, by show st.l.set 0 _ = _; rw [h1]; rfl, h2, h3, h4, ?_, by decide, fun _ => rfl, Or.inr (Or.inr (Or.inr rfl)), fun _ => h99⟩
      show (if (0 : Int) = 24 then st.cap + 5 else st.cap) ≤ m + 5
      rw [if_neg (by decide)]
      omega
theorem on_play {sc : List Bs} {gr : Nat} {ap : Bool} {m : Int} {st st' : Fs} {x : Opd} {g : Gr} {b : Bool} (h : OnI sc gr ap m st) (hq : plD st x = (st', (g, b))) :
    (b = false → OnI sc gr ap (m + 5) st') ∧ (b = true → gr = 0 ∧ ap = true ∧ x.dev = ⟨#[100]⟩ ∧ x.cl = ⟨#[97, 112, 112]⟩ ∧ g.client = ⟨#[97, 112, 112]⟩ ∧ withinS g.scopes sc = true ∧ OnI sc 1 ap (m + 5) st') := by
  unfold plD at hq
  split at hq
  · injection hq with e1 e2
    injection e2 with e2 e3
    subst e1
    subst e3
    exact ⟨fun _ => (on_den h).le (by omega), fun h => by cases h⟩
  · split at hq
    · obtain ⟨⟨s1, g1, k1⟩, hp⟩ : ∃ r, pol st x.dev x.cl x.now = r := ⟨_, rfl⟩
      rw [hp] at hq
      injection hq with e1 e2
      injection e2 with e2 e3
      subst e1
      subst e2
      subst e3
      have := on_pol h hp
      exact ⟨fun h => this.1 (by simpa using h), fun h => this.2 (by simpa using h)⟩
    · injection hq with e1 e2
      injection e2 with e2 e3
      subst e1
      subst e3
      exact ⟨fun _ => h.le (by omega), fun h => by cases h⟩
end Go.Proofs.YtapooonlbjgbgaaDoor.Dv
