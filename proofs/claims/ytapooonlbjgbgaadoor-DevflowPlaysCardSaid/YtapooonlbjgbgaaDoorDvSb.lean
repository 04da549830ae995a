/-
  The record's blocks within a given set: the contracts, as the statements use them.
-/
import Derived.Test.YtapooonlbjgbgaaDoorDvS
namespace Go.Proofs.YtapooonlbjgbgaaDoor.Dv
open Go.RowKit Go.Proofs.YtapooonlbjgbgaaDoor.Fo Go.Proofs.YtapooonlbjgbgaaDoor.Rf Go.Maps

theorem Mods.mono' {S T : Nat → Prop} {w w' : World} (h : Mods S w w') (hs : ∀ k, S k → T k) : Mods T w w' := ⟨h.os, h.tape, h.output, h.size, fun k hk hn => h.block k hk (fun e => hn (hs k e))⟩
/-- The record of flows lies in blocks of T. -/
def RepB (w : World) (T : Nat → Prop) (F : Nat) (st : Fs) : Prop := ∃ S, RepE w S F st ∧ ∀ k, S k → T k
theorem RepB.inv {w : World} {T : Nat → Prop} {F : Nat} {st : Fs} (h : RepB w T F st) : Inv st := h.elim fun _ h => h.1.inv
theorem RepB.below {w w' : World} {T : Nat → Prop} {F : Nat} {st : Fs} (h : RepB w T F st) (hb : Below w.heap.size w w') : RepB w' T F st := h.elim fun S h => ⟨S, h.1.below hb, h.2⟩
theorem RepB.mono {w : World} {T T' : Nat → Prop} {F : Nat} {st : Fs} (h : RepB w T F st) (ht : ∀ k, k < w.heap.size → T k → T' k) : RepB w T' F st := h.elim fun S h => ⟨S, h.1, fun k e => ht k (h.1.lt k e) (h.2 k e)⟩
theorem RepB.keep {w w' : World} {T : Nat → Prop} {F : Nat} {st : Fs} (h : RepB w T F st) (hk : ∀ k, k < w.heap.size → T k → w'.heap[k]? = w.heap[k]?) (hz : w.heap.size ≤ w'.heap.size) : RepB w' T F st :=
  h.elim fun S h => ⟨S, h.1.keep (fun _ e => e) (fun k e => hk k (h.1.lt k e) (h.2 k e)) hz (fun k e => Nat.lt_of_lt_of_le (h.1.lt k e) hz), h.2⟩
theorem grow_T {w w' : World} {S T : Nat → Prop} (hS : ∀ k, S k → T k) (hT : ∀ k, w.heap.size ≤ k → T k) : ∀ k, Go.Proofs.YtapooonlbjgbgaaDoor.grow S w w' k → T k := fun k e => by
  rcases e with e | e
  · exact hS k e
  · exact hT k e.1
theorem new_b {w : World} {l i : Int} {st : Fs} (h : 1 ≤ l ∧ 1 ≤ i) (hst : new0 l i = st) : Calls Tryd.prog 15 #[.int .i64 l, .int .i64 i] w fun e w' => ∃ F, e = .returned (.tuple #[.pointer (some ⟨F, 0, none⟩), .int .i64 0]) ∧ RepB w' (fun k => w.heap.size ≤ k) F st ∧ Below w.heap.size w w' := by
  refine (new_any l i w).mono ?_
  intro e w' hN
  unfold NewIs at hN
  rw [if_neg (by omega)] at hN
  obtain ⟨F, h1, h2, h3⟩ := hN
  subst hst
  exact ⟨F, h1, ⟨_, h2, fun k e => by
    rcases e with e | e
    · exact e.elim
    · exact e.1⟩, h3⟩
theorem new_no {w : World} {l i : Int} (h : l < 1 ∨ i < 1) : Calls Tryd.prog 15 #[.int .i64 l, .int .i64 i] w fun e w' => e = .returned (.tuple #[.pointer none, .int .i64 2]) ∧ w = w' := by
  refine (new_any l i w).mono ?_
  intro e w' hN
  unfold NewIs at hN
  rw [if_pos h] at hN
  exact hN
theorem sta_b {w : World} {T0 T : Nat → Prop} {F : Nat} {st st' : Fs} {k : Int} (h : RepB w T0 F st) (h0 : ∀ k, T0 k → T k) (hT : ∀ k, w.heap.size ≤ k → T k) (d u c : Bs) (sc : List Bs) (A : Option Addr) (cc : Nat) (now : Int) (hq : sta st d u c sc now = (st', k)) (hd : d.size ≤ 100000) (hu : u.size ≤ 100000) (hc : c.size ≤ 100000) (hs : Ss w A sc.length cc sc) (hsh : Short sc) (hn : sc.length ≤ 1000) (hm : MX w) (hAS : ∀ a, A = some a → 0 < sc.length → ¬ T0 a.block) :
    Calls Tryd.prog 17 #[.pointer (some ⟨F, 0, none⟩), .string d, .string u, .string c, .slice A sc.length cc, .int .i64 now] w fun e w' => e = .returned (.int .i64 k) ∧ RepB w' T F st' ∧ Mods T0 w w' := by
  obtain ⟨S, h, hS⟩ := h
  refine (sta_any h d u c sc A cc now hd hu hc hs hsh hn hm (fun a ha hl e => hAS a ha hl (hS _ e))).mono ?_
  rintro e w' ⟨h1, h2, h3⟩
  rw [hq] at h1 h2
  exact ⟨h1, ⟨_, h2, grow_T (fun k e => h0 k (hS k e)) hT⟩, Mods.mono' h3 hS⟩
theorem pen_b {w : World} {T : Nat → Prop} {F : Nat} {st : Fs} (h : RepB w T F st) (u : Bs) (hu : u.size ≤ 100000) (now : Int) (hm : MX w) {r : Bs × List Bs × Int} (hq : pen st u now = r) :
    Calls Tryd.prog 19 #[.pointer (some ⟨F, 0, none⟩), .string u, .int .i64 now] w (PenIs w r) := by
  obtain ⟨S, h, hS⟩ := h
  subst hq
  exact pen_any h u hu now hm
theorem apr_b {w : World} {T : Nat → Prop} {F : Nat} {st st' : Fs} {k : Int} (h : RepB w T F st) (hT : ∀ k, w.heap.size ≤ k → T k) (u : Bs) (g : Gr) (Ag : Option Addr) (dg : Nat) (hu : u.size ≤ 100000) (now : Int) (hq : apr st u g now = (st', k)) (hs : Ss w Ag g.scopes.length dg g.scopes) (hsh : Short g.scopes) (hn : g.scopes.length ≤ 1000) (hm : MX w) :
    Calls Tryd.prog 22 #[.pointer (some ⟨F, 0, none⟩), .string u, .agg #[.string g.user, .string g.client, .string g.tenant, .string g.session, .string g.redirect, .string g.nonce, .string g.challenge, .int .i64 g.method, .slice Ag g.scopes.length dg, .int .i64 g.auth, .int .i64 g.level], .int .i64 now] w fun e w' => e = .returned (.int .i64 k) ∧ RepB w' T F st' ∧ Mods T w w' := by
  obtain ⟨S, h, hS⟩ := h
  refine (apr_any h u g Ag dg hu now hs hsh hn hm).mono ?_
  rintro e w' ⟨h1, h2, h3⟩
  rw [hq] at h1 h2
  exact ⟨h1, ⟨_, h2, grow_T hS hT⟩, Mods.mono' h3 hS⟩
theorem den_b {w : World} {T : Nat → Prop} {F : Nat} {st st' : Fs} {k : Int} (h : RepB w T F st) (hT : ∀ k, w.heap.size ≤ k → T k) (u : Bs) (hu : u.size ≤ 100000) (now : Int) (hq : den st u now = (st', k)) (hm : MX w) :
    Calls Tryd.prog 24 #[.pointer (some ⟨F, 0, none⟩), .string u, .int .i64 now] w fun e w' => e = .returned (.int .i64 k) ∧ RepB w' T F st' ∧ Mods T w w' := by
  obtain ⟨S, h, hS⟩ := h
  refine (den_any h u hu now hm).mono ?_
  rintro e w' ⟨h1, h2, h3⟩
  rw [hq] at h1 h2
  exact ⟨h1, ⟨_, h2, grow_T hS hT⟩, Mods.mono' h3 hS⟩
theorem pol_b {w : World} {T : Nat → Prop} {F : Nat} {st : Fs} (h : RepB w T F st) (d c : Bs) (hd : d.size ≤ 100000) (now : Int) (hcap : st.cap ≤ 576460752303423488) {r : Fs × (Gr × Int)} (hq : pol st d c now = r) :
    Calls Tryd.prog 26 #[.pointer (some ⟨F, 0, none⟩), .string d, .string c, .int .i64 now] w fun e w' => ∃ A d, e = .returned (.tuple #[.agg #[.string r.2.1.user, .string r.2.1.client, .string r.2.1.tenant, .string r.2.1.session, .string r.2.1.redirect, .string r.2.1.nonce, .string r.2.1.challenge, .int .i64 r.2.1.method, .slice A r.2.1.scopes.length d, .int .i64 r.2.1.auth, .int .i64 r.2.1.level], .int .i64 r.2.2]) ∧ Fresh w' w.heap.size A d r.2.1.scopes ∧ RepB w' (fun k => T k ∧ k < w.heap.size) F r.1 ∧ Mods T w w' := by
  obtain ⟨S, h, hS⟩ := h
  subst hq
  refine (pol_any h d c hd now hcap).mono ?_
  rintro e w' ⟨A, d', h1, h2, h3, h4⟩
  exact ⟨A, d', h1, h2, ⟨S, h3, fun k e => ⟨hS k e, h.lt k e⟩⟩, Mods.mono' h4 hS⟩
theorem itv_b {w : World} {T : Nat → Prop} {F : Nat} {st : Fs} (h : RepB w T F st) (d : Bs) (hd : d.size ≤ 100000) {v : Int} (hv : itv st d = v) :
    Calls Tryd.prog 29 #[.pointer (some ⟨F, 0, none⟩), .string d] w fun e w' => e = .returned (.int .i64 v) ∧ w = w' := by
  obtain ⟨S, h, hS⟩ := h
  exact itv_any h d hd hv
theorem pur_b {w : World} {T : Nat → Prop} {F : Nat} {st st' : Fs} {n : Int} (h : RepB w T F st) (now : Int) (hq : (st.l.length : Int) - ((puS st now).l.length : Int) = n) (hq2 : puS st now = st') :
    Calls Tryd.prog 31 #[.pointer (some ⟨F, 0, none⟩), .int .i64 now] w fun e w' => e = .returned (.int .i64 n) ∧ RepB w' T F st' ∧ Mods T w w' := by
  obtain ⟨S, h, hS⟩ := h
  subst hq
  subst hq2
  refine (pur_any h now).mono ?_
  rintro e w' ⟨h1, h2, h3⟩
  exact ⟨h1, ⟨S, h2, hS⟩, Mods.mono' h3 hS⟩
theorem blk_mods {T : Nat → Prop} {w w' : World} {p : Nat} {o : Obj} (hm : Mods T w w') (h : w.heap[p]? = some o) (hT : ¬ T p) : w'.heap[p]? = some o := (hm.block p (blk_lt h) hT).trans h
theorem cell_mods {T : Nat → Prop} {w w' : World} {a : Addr} {v : Value} (hm : Mods T w w') (h : w.cell? a = some v) (hT : ¬ T a.block) : w'.cell? a = some v := by
  rw [World.cell?_of_block (w := w) (hm.block a.block (World.block_lt_of_cell? w _ h) hT)]; exact h
theorem ss_row {w : World} {q : Nat} {l : List Bs} (h : w.heap[q]? = some (.cells (l.map Value.string).toArray 9 (0, 0))) : Ss w (some ⟨q, 0, none⟩) l.length l.length l := by
  refine ⟨rfl, Nat.le_refl _, fun _ => ⟨q, 0, rfl, blk_lt h, fun i hi => ?_⟩⟩
  rw [cell_block h]
  simp [sAt, List.getD, hi]
end Go.Proofs.YtapooonlbjgbgaaDoor.Dv
