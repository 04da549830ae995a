/-
  The record's blocks within a given set: the contracts, as the statements use them.
-/
import Derived.Test.YtfeljihbaekfmaaRfX
namespace Go.Proofs.Ytfeljihbaekfmaa.Rf
open Go.RowKit Go.Proofs.Ytfeljihbaekfmaa.Fo

theorem Mods.mono {S T : Nat → Prop} {w w' : World} (h : Mods S w w') (hs : ∀ k, S k → T k) : Mods T w w' := ⟨h.os, h.tape, h.output, h.size, fun k hk hn => h.block k hk (fun e => hn (hs k e))⟩
theorem Mods.below_of {T : Nat → Prop} {w w' : World} {B : Nat} (h : Mods T w w') (hB : B ≤ w.heap.size) (hT : ∀ k, T k → B ≤ k) : Below B w w' := h.toBelow hB hT
/-- The record of families lies in blocks of T. -/
def RepB (w : World) (T : Nat → Prop) (F : Nat) (st : St) : Prop := ∃ S, RepE w S F st ∧ ∀ k, S k → T k
theorem RepB.inv {w : World} {T : Nat → Prop} {F : Nat} {st : St} (h : RepB w T F st) : Inv st := h.elim fun _ h => h.1.inv
theorem RepB.below {w w' : World} {T : Nat → Prop} {F : Nat} {st : St} (h : RepB w T F st) (hb : Below w.heap.size w w') : RepB w' T F st := h.elim fun S h => ⟨S, h.1.below hb, h.2⟩
theorem RepB.mono {w : World} {T T' : Nat → Prop} {F : Nat} {st : St} (h : RepB w T F st) (ht : ∀ k, k < w.heap.size → T k → T' k) : RepB w T' F st := h.elim fun S h => ⟨S, h.1, fun k e => ht k (h.1.lt k e) (h.2 k e)⟩
theorem RepB.keep {w w' : World} {T : Nat → Prop} {F : Nat} {st : St} (h : RepB w T F st) (hk : ∀ k, k < w.heap.size → T k → w'.heap[k]? = w.heap[k]?) (hz : w.heap.size ≤ w'.heap.size) : RepB w' T F st :=
  h.elim fun S h => ⟨S, h.1.keep (fun _ e => e) (fun k e => hk k (h.1.lt k e) (h.2 k e)) hz (fun k e => Nat.lt_of_lt_of_le (h.1.lt k e) hz), h.2⟩
theorem grow_T {w w' : World} {S T : Nat → Prop} (hS : ∀ k, S k → T k) (hT : ∀ k, w.heap.size ≤ k → T k) : ∀ k, Go.Proofs.Ytfeljihbaekfmaa.grow S w w' k → T k := fun k e => by
  rcases e with e | e
  · exact hS k e
  · exact hT k e.1
theorem num_b {w w' : World} {S T : Nat → Prop} {F : Nat} {n : Int} {st : St} {e : Ending} (h : NumIs w S F n st e w') (hS : ∀ k, S k → T k) (hT : ∀ k, w.heap.size ≤ k → T k) : e = .returned (.int .i64 n) ∧ RepB w' T F st ∧ Mods T w w' :=
  ⟨h.1, ⟨_, h.2.1, grow_T hS hT⟩, h.2.2.mono hS⟩
theorem new_b {w : World} {l t : Int} {st : St} (h : 1 ≤ limI l ∧ 1 ≤ limI t) (hst : (⟨limI l, limI t, []⟩ : St) = st) : Calls Try.prog 11 #[.int .i64 l, .int .i64 t] w fun e w' => ∃ F, e = .returned (.tuple #[.pointer (some ⟨F, 0, none⟩), .int .i64 0]) ∧ RepB w' (fun k => w.heap.size ≤ k) F st ∧ Below w.heap.size w w' := by
  refine (new_any l t w).mono ?_
  intro e w' hN
  unfold NewIs at hN
  rw [if_neg (by omega)] at hN
  obtain ⟨F, h1, h2, h3⟩ := hN
  subst hst
  exact ⟨F, h1, ⟨_, h2, fun k e => by
    rcases e with e | e
    · exact e.elim
    · exact e.1⟩, h3⟩
theorem new_no {w : World} {l t : Int} (h : limI l < 1 ∨ limI t < 1) : Calls Try.prog 11 #[.int .i64 l, .int .i64 t] w fun e w' => e = .returned (.tuple #[.pointer none, .int .i64 2]) ∧ w = w' := by
  refine (new_any l t w).mono ?_
  intro e w' hN
  unfold NewIs at hN
  rw [if_pos h] at hN
  exact hN
theorem start_b {w : World} {T : Nat → Prop} {F : Nat} {st st' : St} {x : Int} (h : RepB w T F st) (hT : ∀ k, w.heap.size ≤ k → T k) (i t : Bs) (g : Gr) (A : Option Addr) (n c : Nat) (now : Int) (hq : start st i t g now = (st', x)) (hi : i.size ≤ 100000) (ht : t.size ≤ 100000) (hu : g.user.size ≤ 100000) (hcl : g.client.size ≤ 100000) (hse : g.session.size ≤ 100000)
    (hs : Ss w A n c g.scopes) (hsh : Short g.scopes) (hn : n ≤ 1000) (hm : MX w) :
    Calls Try.prog 22 #[.pointer (some ⟨F, 0, none⟩), .string i, .string t, .agg #[.string g.user, .string g.client, .string g.tenant, .string g.session, .string g.redirect, .string g.nonce, .string g.challenge, .int .i64 g.method, (.slice A n c), .int .i64 g.auth, .int .i64 g.level], .int .i64 now] w fun e w' => e = .returned (.int .i64 x) ∧ RepB w' T F st' ∧ Mods T w w' := by
  obtain ⟨S, h, hS⟩ := h
  refine (start_any h i t g A n c now hi ht hu hcl hse hs hsh hn hm).mono ?_
  intro e w' hN
  rw [hq] at hN
  exact num_b hN hS hT
theorem rotate_b {w : World} {T : Nat → Prop} {F : Nat} {st : St} (h : RepB w T F st) (t n c : Bs) (sc : List Bs) (B : Option Addr) (m d : Nat) (now : Int) {r : St × (Gr × Int)} (hq : rot st t n c sc now = r) (ht : t.size ≤ 100000) (hn : n.size ≤ 100000)
    (hs : Ss w B m d sc) (hsh : Short sc) (hmm : m ≤ 1000) (hm : MX w) (hBS : ∀ a, B = some a → 0 < m → ¬ T a.block) :
    Calls Try.prog 25 #[.pointer (some ⟨F, 0, none⟩), .string t, .string n, .string c, .slice B m d, .int .i64 now] w fun e w' => ∃ A d, e = .returned (.tuple #[.agg #[.string r.2.1.user, .string r.2.1.client, .string r.2.1.tenant, .string r.2.1.session, .string r.2.1.redirect, .string r.2.1.nonce, .string r.2.1.challenge, .int .i64 r.2.1.method, (.slice A r.2.1.scopes.length d), .int .i64 r.2.1.auth, .int .i64 r.2.1.level], .int .i64 r.2.2]) ∧ Ss w' A r.2.1.scopes.length d r.2.1.scopes ∧ (∀ a, A = some a → 0 < r.2.1.scopes.length → w.heap.size ≤ a.block) ∧ RepB w' (fun k => T k ∧ k < w.heap.size) F r.1 ∧ Mods T w w' := by
  obtain ⟨S, h, hS⟩ := h
  subst hq
  refine (rotate_any h t n c sc B m d now ht hn hs hsh hmm hm (fun a h1 h2 h3 => hBS a h1 h2 (hS _ h3))).mono ?_
  rintro e w' ⟨A, d', h1, h2, h3, h4, h5⟩
  exact ⟨A, d', h1, h2, h3, ⟨S, h4, fun k e => ⟨hS k e, h.lt k e⟩⟩, h5.mono hS⟩
theorem live_b {w : World} {T : Nat → Prop} {F : Nat} {st : St} (h : RepB w T F st) (i : Bs) (hi : i.size ≤ 100000) (now : Int) {b : Bool} (hq : liveI st i now = b) : Calls Try.prog 20 #[.pointer (some ⟨F, 0, none⟩), .string i, .int .i64 now] w fun e w' => e = .returned (.bool b) ∧ Below w.heap.size w w' := by
  obtain ⟨S, h, hS⟩ := h
  subst hq
  exact live_any h i hi now
theorem len_b {w : World} {T : Nat → Prop} {F : Nat} {st : St} (h : RepB w T F st) (now : Int) {n : Nat} (hq : lenS st now = n) : Calls Try.prog 18 #[.pointer (some ⟨F, 0, none⟩), .int .i64 now] w fun e w' => e = .returned (.int .i64 n) ∧ Below w.heap.size w w' := by
  obtain ⟨S, h, hS⟩ := h
  subst hq
  exact len_any h now
theorem fam_b {w : World} {T : Nat → Prop} {F : Nat} {st : St} (h : RepB w T F st) (t : Bs) (ht : t.size ≤ 100000) {o : Option Bs} (hq : famT st t = o) : Calls Try.prog 15 #[.pointer (some ⟨F, 0, none⟩), .string t] w fun e w' => e = .returned (.tuple #[.string (o.getD eB), .bool o.isSome]) ∧ w = w' := by
  obtain ⟨S, h, hS⟩ := h
  subst hq
  exact family_any h t ht
theorem revoke_b {w : World} {T : Nat → Prop} {F : Nat} {st st' : St} (h : RepB w T F st) (hT : ∀ k, w.heap.size ≤ k → T k) (s : Bs) {b : Bool} (hq : decide (endN (isId s) st = 1) = b) (hq2 : endS (isId s) st = st') : Calls Try.prog 30 #[.pointer (some ⟨F, 0, none⟩), .string s] w fun e w' => e = .returned (.bool b) ∧ RepB w' T F st' ∧ Mods T w w' := by
  obtain ⟨S, h, hS⟩ := h
  subst hq
  subst hq2
  refine (revoke_any h s).mono ?_
  rintro e w' ⟨h1, h2, h3⟩
  exact ⟨h1, ⟨_, h2, grow_T hS hT⟩, h3.mono hS⟩
theorem revSes_b {w : World} {T : Nat → Prop} {F : Nat} {st st' : St} (h : RepB w T F st) (hT : ∀ k, w.heap.size ≤ k → T k) (s : Bs) {n : Nat} (hq : endN (isSes s) st = n) (hq2 : endS (isSes s) st = st') : Calls Try.prog 27 #[.pointer (some ⟨F, 0, none⟩), .string s] w fun e w' => e = .returned (.int .i64 n) ∧ RepB w' T F st' ∧ Mods T w w' := by
  obtain ⟨S, h, hS⟩ := h
  subst hq
  subst hq2
  exact (revSes_any h s).mono fun e w' hN => num_b hN hS hT
theorem revUsr_b {w : World} {T : Nat → Prop} {F : Nat} {st st' : St} (h : RepB w T F st) (hT : ∀ k, w.heap.size ≤ k → T k) (s : Bs) {n : Nat} (hq : endN (isUsr s) st = n) (hq2 : endS (isUsr s) st = st') : Calls Try.prog 28 #[.pointer (some ⟨F, 0, none⟩), .string s] w fun e w' => e = .returned (.int .i64 n) ∧ RepB w' T F st' ∧ Mods T w w' := by
  obtain ⟨S, h, hS⟩ := h
  subst hq
  subst hq2
  exact (revUsr_any h s).mono fun e w' hN => num_b hN hS hT
theorem revCli_b {w : World} {T : Nat → Prop} {F : Nat} {st st' : St} (h : RepB w T F st) (hT : ∀ k, w.heap.size ≤ k → T k) (s c : Bs) {n : Nat} (hq : endN (isCli s c) st = n) (hq2 : endS (isCli s c) st = st') : Calls Try.prog 26 #[.pointer (some ⟨F, 0, none⟩), .string s, .string c] w fun e w' => e = .returned (.int .i64 n) ∧ RepB w' T F st' ∧ Mods T w w' := by
  obtain ⟨S, h, hS⟩ := h
  subst hq
  subst hq2
  exact (revCli_any h s c).mono fun e w' hN => num_b hN hS hT
set_option maxHeartbeats 1000000 in
theorem start_nil (i t : Bs) (g : Gr) (A : Option Addr) (n c : Nat) (now : Int) (w : World) : Calls Try.prog 22 #[.pointer none, .string i, .string t, .agg #[.string g.user, .string g.client, .string g.tenant, .string g.session, .string g.redirect, .string g.nonce, .string g.challenge, .int .i64 g.method, (.slice A n c), .int .i64 g.auth, .int .i64 g.level], .int .i64 now] w fun e w' => e = .returned (.int .i64 1) ∧ Below w.heap.size w w' := by
  go_enter Try.func22, Try.ntmps22
  go_wp2_with fail
  refine (made_no _).mono ?_
  rintro e w1 ⟨rfl, rfl⟩
  go_wp2
  go_ret
  exact ⟨rfl, by go_grown⟩
end Go.Proofs.Ytfeljihbaekfmaa.Rf
