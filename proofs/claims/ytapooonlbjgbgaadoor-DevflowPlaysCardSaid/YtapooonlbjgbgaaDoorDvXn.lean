/-
  The reference's contracts, as the statement uses them.
-/
import Derived.Test.YtapooonlbjgbgaaDoorDvXm
namespace Go.Proofs.YtapooonlbjgbgaaDoor.Dv
open Go.RowKit Go.Proofs.YtapooonlbjgbgaaDoor.Fo Go.Proofs.YtapooonlbjgbgaaDoor.Rf

theorem rsta_any {w : World} {S : Nat → Prop} {G : Nat} {st st' : Fs} {k : Int} (h : RefE w S G st) (d u c : Bs) (sc : List Bs) (A : Option Addr) (cc : Nat) (now : Int) (hd : d.size ≤ 100000) (hu : u.size ≤ 100000) (hc : c.size ≤ 100000) (hs : Ss w A sc.length cc sc) (hsh : Short sc) (hn : sc.length ≤ 1000) (hAS : ∀ a, A = some a → 0 < sc.length → ¬ S a.block) (hq : sta st d u c sc now = (st', k)) :
    Calls Tryd.prog 18 #[.pointer (some ⟨G, 0, none⟩), .string d, .string u, .string c, .slice A sc.length cc, .int .i64 now] w (fun e w' => e = .returned (.int .i64 k) ∧ RefE w' (Go.Proofs.YtapooonlbjgbgaaDoor.grow S w w') G st' ∧ Mods S w w') := by
  by_cases hw : wrd d = false ∨ wrd c = false
  · exact rsta_5 h d u c sc A cc now hd hu hc hs hsh hn hAS hq hw
  · simp only [not_or, Bool.not_eq_false] at hw
    by_cases h3 : (cuC u).2 = 0
    · by_cases h4 : chkS sc = 0
      · exact rsta_l h d u c sc A cc now hd hu hc hs hsh hn hAS hq hw.1 hw.2 h3 h4
      · exact rsta_c h d u c sc A cc now hd hu hc hs hsh hn hAS hq hw.1 hw.2 h3 rfl h4
    · exact rsta_4 h d u c sc A cc now hd hu hc hs hsh hn hAS hq hw.1 hw.2 h3
/-- The reference's record lies in blocks of T. -/
def RefB (w : World) (T : Nat → Prop) (G : Nat) (st : Fs) : Prop := ∃ S, RefE w S G st ∧ ∀ k, S k → T k
theorem RefB.inv {w : World} {T : Nat → Prop} {G : Nat} {st : Fs} (h : RefB w T G st) : Inv st := h.elim fun _ h => h.1.inv
theorem RefB.below {w w' : World} {T : Nat → Prop} {G : Nat} {st : Fs} (h : RefB w T G st) (hb : Below w.heap.size w w') : RefB w' T G st := h.elim fun S h => ⟨S, h.1.below hb, h.2⟩
theorem RefB.mono {w : World} {T T' : Nat → Prop} {G : Nat} {st : Fs} (h : RefB w T G st) (ht : ∀ k, k < w.heap.size → T k → T' k) : RefB w T' G st := h.elim fun S h => ⟨S, h.1, fun k e => ht k (h.1.lt k e) (h.2 k e)⟩
theorem RefB.keep {w w' : World} {T : Nat → Prop} {G : Nat} {st : Fs} (h : RefB w T G st) (hk : ∀ k, k < w.heap.size → T k → w'.heap[k]? = w.heap[k]?) (hz : w.heap.size ≤ w'.heap.size) : RefB w' T G st :=
  h.elim fun S h => ⟨S, h.1.keep (fun _ e => e) (fun k e => hk k (h.1.lt k e) (h.2 k e)) hz (fun k e => Nat.lt_of_lt_of_le (h.1.lt k e) hz), h.2⟩
theorem rnew_b {w : World} {l i : Int} {st : Fs} (h : 1 ≤ l ∧ 1 ≤ i) (hst : new0 l i = st) : Calls Tryd.prog 16 #[.int .i64 l, .int .i64 i] w fun e w' => ∃ G, e = .returned (.tuple #[.pointer (some ⟨G, 0, none⟩), .int .i64 0]) ∧ RefB w' (fun k => w.heap.size ≤ k) G st ∧ Below w.heap.size w w' := by
  refine (rnew_any l i w).mono ?_
  intro e w' hN
  unfold RNewIs at hN
  rw [if_neg (by omega)] at hN
  obtain ⟨G, h1, h2, h3⟩ := hN
  subst hst
  exact ⟨G, h1, ⟨_, h2, fun k e => by rw [show k = w.heap.size from e]; exact Nat.le_refl _⟩, h3⟩
theorem rnew_no {w : World} {l i : Int} (h : l < 1 ∨ i < 1) : Calls Tryd.prog 16 #[.int .i64 l, .int .i64 i] w fun e w' => e = .returned (.tuple #[.pointer none, .int .i64 2]) ∧ w = w' := by
  refine (rnew_any l i w).mono ?_
  intro e w' hN
  unfold RNewIs at hN
  rw [if_pos h] at hN
  exact hN
theorem rsta_b {w : World} {T0 T : Nat → Prop} {G : Nat} {st st' : Fs} {k : Int} (h : RefB w T0 G st) (h0 : ∀ k, T0 k → T k) (hT : ∀ k, w.heap.size ≤ k → T k) (d u c : Bs) (sc : List Bs) (A : Option Addr) (cc : Nat) (now : Int) (hq : sta st d u c sc now = (st', k)) (hd : d.size ≤ 100000) (hu : u.size ≤ 100000) (hc : c.size ≤ 100000) (hs : Ss w A sc.length cc sc) (hsh : Short sc) (hn : sc.length ≤ 1000) (hAS : ∀ a, A = some a → 0 < sc.length → ¬ T0 a.block) :
    Calls Tryd.prog 18 #[.pointer (some ⟨G, 0, none⟩), .string d, .string u, .string c, .slice A sc.length cc, .int .i64 now] w fun e w' => e = .returned (.int .i64 k) ∧ RefB w' T G st' ∧ Mods T0 w w' := by
  obtain ⟨S, h, hS⟩ := h
  refine (rsta_any h d u c sc A cc now hd hu hc hs hsh hn (fun a ha hl e => hAS a ha hl (hS _ e)) hq).mono ?_
  rintro e w' ⟨h1, h2, h3⟩
  exact ⟨h1, ⟨_, h2, grow_T (fun k e => h0 k (hS k e)) hT⟩, Mods.mono' h3 hS⟩
theorem rpen_b {w : World} {T : Nat → Prop} {G : Nat} {st : Fs} (h : RefB w T G st) (u : Bs) (hu : u.size ≤ 100000) (now : Int) {r : Bs × List Bs × Int} (hq : pen st u now = r) :
    Calls Tryd.prog 20 #[.pointer (some ⟨G, 0, none⟩), .string u, .int .i64 now] w (PenIs w r) := by
  obtain ⟨S, h, hS⟩ := h
  exact rpen_any h u hu now hq
theorem rapr_b {w : World} {T0 T : Nat → Prop} {G : Nat} {st st' : Fs} {k : Int} (h : RefB w T0 G st) (h0 : ∀ k, T0 k → T k) (hT : ∀ k, w.heap.size ≤ k → T k) (u : Bs) (g : Gr) (Ag : Option Addr) (dg : Nat) (hu : u.size ≤ 100000) (now : Int) (hq : apr st u g now = (st', k)) (hs : Ss w Ag g.scopes.length dg g.scopes) (hsh : Short g.scopes) (hn : g.scopes.length ≤ 1000) (hAS : ∀ a, Ag = some a → 0 < g.scopes.length → ¬ T0 a.block) :
    Calls Tryd.prog 23 #[.pointer (some ⟨G, 0, none⟩), .string u, .agg #[.string g.user, .string g.client, .string g.tenant, .string g.session, .string g.redirect, .string g.nonce, .string g.challenge, .int .i64 g.method, .slice Ag g.scopes.length dg, .int .i64 g.auth, .int .i64 g.level], .int .i64 now] w fun e w' => e = .returned (.int .i64 k) ∧ RefB w' T G st' ∧ Mods T0 w w' := by
  obtain ⟨S, h, hS⟩ := h
  refine (rapr_any h u g Ag dg hu now hs hsh hn (fun a ha hl e => hAS a ha hl (hS _ e)) hq).mono ?_
  rintro e w' ⟨h1, h2, h3⟩
  exact ⟨h1, ⟨_, h2, grow_T (fun k e => h0 k (hS k e)) hT⟩, Mods.mono' h3 hS⟩
theorem rden_b {w : World} {T : Nat → Prop} {G : Nat} {st st' : Fs} {k : Int} (h : RefB w T G st) (u : Bs) (hu : u.size ≤ 100000) (now : Int) (hq : den st u now = (st', k)) :
    Calls Tryd.prog 25 #[.pointer (some ⟨G, 0, none⟩), .string u, .int .i64 now] w fun e w' => e = .returned (.int .i64 k) ∧ RefB w' T G st' ∧ Mods T w w' := by
  obtain ⟨S, h, hS⟩ := h
  refine (rden_any h u hu now hq).mono ?_
  rintro e w' ⟨h1, h2, h3⟩
  exact ⟨h1, ⟨S, h2, hS⟩, Mods.mono' h3 hS⟩
theorem rpol_b {w : World} {T : Nat → Prop} {G : Nat} {st : Fs} (h : RefB w T G st) (d c : Bs) (now : Int) (hcap : st.cap ≤ 576460752303423488) {r : Fs × (Gr × Int)} (hq : pol st d c now = r) :
    Calls Tryd.prog 27 #[.pointer (some ⟨G, 0, none⟩), .string d, .string c, .int .i64 now] w fun e w' => ∃ A d', e = .returned (.tuple #[.agg #[.string r.2.1.user, .string r.2.1.client, .string r.2.1.tenant, .string r.2.1.session, .string r.2.1.redirect, .string r.2.1.nonce, .string r.2.1.challenge, .int .i64 r.2.1.method, .slice A r.2.1.scopes.length d', .int .i64 r.2.1.auth, .int .i64 r.2.1.level], .int .i64 r.2.2]) ∧ Fresh w' w.heap.size A d' r.2.1.scopes ∧ RefB w' (fun k => T k ∧ k < w.heap.size) G r.1 ∧ Mods T w w' := by
  obtain ⟨S, h, hS⟩ := h
  refine (rpol_any h d c now hcap hq).mono ?_
  rintro e w' ⟨A, d', h1, h2, h3, h4⟩
  exact ⟨A, d', h1, h2, ⟨S, h3, fun k e => ⟨hS k e, h.lt k e⟩⟩, Mods.mono' h4 hS⟩
theorem rit_b {w : World} {T : Nat → Prop} {G : Nat} {st : Fs} (h : RefB w T G st) (d : Bs) {v : Int} (hv : itv st d = v) :
    Calls Tryd.prog 30 #[.pointer (some ⟨G, 0, none⟩), .string d] w fun e w' => e = .returned (.int .i64 v) ∧ w = w' := by
  obtain ⟨S, h, hS⟩ := h
  exact rit_any h d hv
theorem rpur_b {w : World} {T0 T : Nat → Prop} {G : Nat} {st st' : Fs} {n : Int} (h : RefB w T0 G st) (h0 : ∀ k, T0 k → T k) (hT : ∀ k, w.heap.size ≤ k → T k) (now : Int) (hq : (st.l.length : Int) - ((puS st now).l.length : Int) = n) (hq2 : puS st now = st') :
    Calls Tryd.prog 32 #[.pointer (some ⟨G, 0, none⟩), .int .i64 now] w fun e w' => e = .returned (.int .i64 n) ∧ RefB w' T G st' ∧ Mods T0 w w' := by
  obtain ⟨S, h, hS⟩ := h
  subst hq2
  refine (rpur_any h now hq).mono ?_
  rintro e w' ⟨h1, h2, h3⟩
  exact ⟨h1, ⟨_, h2, grow_T (fun k e => h0 k (hS k e)) hT⟩, Mods.mono' h3 hS⟩
end Go.Proofs.YtapooonlbjgbgaaDoor.Dv
