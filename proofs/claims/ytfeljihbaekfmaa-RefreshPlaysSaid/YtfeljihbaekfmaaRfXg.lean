/-
  The reference's Start, whatever the arguments.
-/
import Derived.Test.YtfeljihbaekfmaaRfXf2
namespace Go.Proofs.Ytfeljihbaekfmaa.Rf
open Go.RowKit Go.Proofs.Ytfeljihbaekfmaa.Fo

theorem findV_none {l : List Fm} {t : Bs} : findV l t = (-1, -1) ∨ ∃ a b : Nat, findV l t = ((a : Int), (b : Int)) := by
  unfold findV
  cases hq : tokI l t with
  | none => exact Or.inl rfl
  | some i =>
    obtain ⟨x, hx, _⟩ := tokI_some hq
    simp only [hx]
    exact Or.inr ⟨i, _, rfl⟩
theorem findV_yes {l : List Fm} {t : Bs} {a b : Nat} (h : findV l t = ((a : Int), (b : Int))) : tokI l t ≠ none := fun hq => by
  unfold findV at h
  rw [hq] at h
  simp only [Prod.mk.injEq] at h
  omega
theorem findV_no {l : List Fm} {t : Bs} (h : findV l t = (-1, -1)) : tokI l t = none := by
  cases hq : tokI l t with
  | none => rfl
  | some i =>
    obtain ⟨x, hx, _⟩ := tokI_some hq
    unfold findV at h
    rw [hq] at h
    simp only [hx, Prod.mk.injEq] at h
    omega
theorem atV_none {l : List Fm} {i : Bs} : (atV l i = -1 ∧ idI l i = none) ∨ ∃ a : Nat, atV l i = (a : Int) ∧ idI l i ≠ none := by
  unfold atV
  cases hq : idI l i with
  | none => exact Or.inl ⟨rfl, rfl⟩
  | some k => exact Or.inr ⟨k, rfl, by simp⟩
theorem rstart_any {w : World} {S : Nat → Prop} {G : Nat} {st : St} (h : RefE w S G st) (i t : Bs) (g : Gr) (A : Option Addr) (n c : Nat) (now : Int) (hi : i.size ≤ 100000) (ht : t.size ≤ 100000) (hu : g.user.size ≤ 100000) (hcl : g.client.size ≤ 100000) (hse : g.session.size ≤ 100000)
    (hs : Ss w A n c g.scopes) (hsh : Short g.scopes) (hn : n ≤ 1000) :
    Calls Try.prog 34 #[.pointer (some ⟨G, 0, none⟩), .string i, .string t, .agg #[.string g.user, .string g.client, .string g.tenant, .string g.session, .string g.redirect, .string g.nonce, .string g.challenge, .int .i64 g.method, .slice A n c, .int .i64 g.auth, .int .i64 g.level], .int .i64 now] w (RNumIs w S G (start st i t g now).2 (start st i t g now).1) := by
  have hbad : ∀ k, startE st i t g = k → k ≠ 0 → start st i t g now = (st, k) := fun k hk h0 => by unfold start; rw [if_neg (by rw [hk]; exact h0), hk]
  have h5 : (wrd i = false ∨ wrd t = false ∨ wrd g.user = false ∨ wrd g.client = false ∨ wrd g.session = false) → start st i t g now = (st, 5) := fun hw => hbad 5 (by unfold startE; rw [if_pos hw]) (by decide)
  cases q0 : wrd i with
  | false => exact rstart_5a h i t g A n c now hi ht hu hcl hse hs hsh hn q0 (h5 (Or.inl q0))
  | true =>
    cases q1 : wrd t with
    | false => exact rstart_5b h i t g A n c now hi ht hu hcl hse hs hsh hn q0 q1 (h5 (Or.inr (Or.inl q1)))
    | true =>
      cases q2 : wrd g.user with
      | false => exact rstart_5c h i t g A n c now hi ht hu hcl hse hs hsh hn q0 q1 q2 (h5 (Or.inr (Or.inr (Or.inl q2))))
      | true =>
        cases q3 : wrd g.client with
        | false => exact rstart_5d h i t g A n c now hi ht hu hcl hse hs hsh hn q0 q1 q2 q3 (h5 (Or.inr (Or.inr (Or.inr (Or.inl q3)))))
        | true =>
          cases q4 : wrd g.session with
          | false => exact rstart_5e h i t g A n c now hi ht hu hcl hse hs hsh hn q0 q1 q2 q3 q4 (h5 (Or.inr (Or.inr (Or.inr (Or.inr q4)))))
          | true =>
            have hE : startE st i t g = if chkS g.scopes ≠ 0 then chkS g.scopes else if tokI st.l t ≠ none ∨ idI st.l i ≠ none then 7 else if 256 ≤ st.l.length then 3 else 0 := by
              unfold startE
              rw [q0, q1, q2, q3, q4, if_neg (by simp)]
            by_cases q6 : chkS g.scopes = 0
            · rw [if_neg (by simp [q6])] at hE
              rcases findV_none (l := st.l) (t := t) with q7 | ⟨a, b, q7⟩
              · have e7 := findV_no q7
                rcases atV_none (l := st.l) (i := i) with ⟨q8, e8⟩ | ⟨a, q8, e8⟩
                · rw [if_neg (by simp [e7, e8])] at hE
                  by_cases q9 : 256 ≤ st.l.length
                  · exact rstart_3 h i t g A n c now hi ht hu hcl hse hs hsh hn q0 q1 q2 q3 q4 q6 q7 q8 q9 (hbad 3 (by rw [hE, if_pos q9]) (by decide))
                  · have e0 : startE st i t g = 0 := by rw [hE, if_neg q9]
                    exact rstart_0 h i t g A n c now hi ht hu hcl hse hs hsh hn q0 q1 q2 q3 q4 q6 q7 q8 q9 (by unfold start; rw [if_pos e0])
                · rw [if_pos (Or.inr e8)] at hE
                  exact rstart_7b h i t g A n c now hi ht hu hcl hse hs hsh hn q0 q1 q2 q3 q4 q6 q7 a q8 (hbad 7 hE (by decide))
              · rw [if_pos (Or.inl (findV_yes q7))] at hE
                exact rstart_7a h i t g A n c now hi ht hu hcl hse hs hsh hn q0 q1 q2 q3 q4 q6 a b q7 (hbad 7 hE (by decide))
            · rw [if_pos q6] at hE
              exact rstart_c h i t g A n c now hi ht hu hcl hse hs hsh hn q0 q1 q2 q3 q4 (chkS g.scopes) rfl q6 (hbad _ hE q6)
end Go.Proofs.Ytfeljihbaekfmaa.Rf
