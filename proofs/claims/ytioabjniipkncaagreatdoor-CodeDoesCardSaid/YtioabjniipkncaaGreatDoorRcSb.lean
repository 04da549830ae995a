/-
  The record's blocks within a given set: the contracts, as the statements use them.
-/
import Derived.Test.YtioabjniipkncaaGreatDoorRcY4
import Derived.Test.YtioabjniipkncaaGreatDoorRcL
namespace Go.Proofs.YtioabjniipkncaaGreatDoor.Rc
open Go.RowKit Go.Proofs.YtioabjniipkncaaGreatDoor.Fo Go.Proofs.YtioabjniipkncaaGreatDoor.Rf Go.Maps

theorem Mods.mono {S T : Nat → Prop} {w w' : World} (h : Mods S w w') (hs : ∀ k, S k → T k) : Mods T w w' := ⟨h.os, h.tape, h.output, h.size, fun k hk hn => h.block k hk (fun e => hn (hs k e))⟩
/-- The record of codes lies in blocks of T. -/
def RepB (w : World) (T : Nat → Prop) (F : Nat) (st : Ct) : Prop := ∃ S, RepE w S F st ∧ ∀ k, S k → T k
theorem RepB.inv {w : World} {T : Nat → Prop} {F : Nat} {st : Ct} (h : RepB w T F st) : Inv st := h.elim fun _ h => h.1.inv
theorem RepB.below {w w' : World} {T : Nat → Prop} {F : Nat} {st : Ct} (h : RepB w T F st) (hb : Below w.heap.size w w') : RepB w' T F st := h.elim fun S h => ⟨S, h.1.below hb, h.2⟩
theorem RepB.mono {w : World} {T T' : Nat → Prop} {F : Nat} {st : Ct} (h : RepB w T F st) (ht : ∀ k, k < w.heap.size → T k → T' k) : RepB w T' F st := h.elim fun S h => ⟨S, h.1, fun k e => ht k (h.1.lt k e) (h.2 k e)⟩
theorem RepB.keep {w w' : World} {T : Nat → Prop} {F : Nat} {st : Ct} (h : RepB w T F st) (hk : ∀ k, k < w.heap.size → T k → w'.heap[k]? = w.heap[k]?) (hz : w.heap.size ≤ w'.heap.size) : RepB w' T F st :=
  h.elim fun S h => ⟨S, h.1.keep (fun _ e => e) (fun k e => hk k (h.1.lt k e) (h.2 k e)) hz (fun k e => Nat.lt_of_lt_of_le (h.1.lt k e) hz), h.2⟩
theorem grow_T {w w' : World} {S T : Nat → Prop} (hS : ∀ k, S k → T k) (hT : ∀ k, w.heap.size ≤ k → T k) : ∀ k, Go.Proofs.YtioabjniipkncaaGreatDoor.grow S w w' k → T k := fun k e => by
  rcases e with e | e
  · exact hS k e
  · exact hT k e.1
theorem num_b {w w' : World} {S T : Nat → Prop} {F : Nat} {n : Int} {st : Ct} {e : Ending} (h : NumIs w S F n st e w') (hS : ∀ k, S k → T k) (hT : ∀ k, w.heap.size ≤ k → T k) : e = .returned (.int .i64 n) ∧ RepB w' T F st ∧ Mods T w w' :=
  ⟨h.1, ⟨_, h.2.1, grow_T hS hT⟩, Mods.mono h.2.2 hS⟩
theorem new_b {w : World} {l : Int} {st : Ct} (h : limI l ≠ 0) (hst : (⟨limI l, []⟩ : Ct) = st) : Calls Tryz.prog 6 #[.int .i64 l] w fun e w' => ∃ F, e = .returned (.tuple #[.pointer (some ⟨F, 0, none⟩), .int .i64 0]) ∧ RepB w' (fun k => w.heap.size ≤ k) F st ∧ Below w.heap.size w w' := by
  refine (new_any l w).mono ?_
  intro e w' hN
  unfold NewIs at hN
  rw [if_neg h] at hN
  obtain ⟨F, h1, h2, h3⟩ := hN
  subst hst
  exact ⟨F, h1, ⟨_, h2, fun k e => by
    rcases e with e | e
    · exact e.elim
    · exact e.1⟩, h3⟩
theorem new_no {w : World} {l : Int} (h : limI l = 0) : Calls Tryz.prog 6 #[.int .i64 l] w fun e w' => e = .returned (.tuple #[.pointer none, .int .i64 2]) ∧ w = w' := by
  refine (new_any l w).mono ?_
  intro e w' hN
  unfold NewIs at hN
  rw [if_pos h] at hN
  exact hN
theorem iss_b {w : World} {T : Nat → Prop} {F : Nat} {st st' : Ct} {x : Int} (h : RepB w T F st) (hT : ∀ k, w.heap.size ≤ k → T k) (t : Bs) (g : Gr) (A : Option Addr) (c : Nat) (now : Int) (hq : iss st t g now = (st', x)) (ht : t.size ≤ 100000) (hsz : g.user.size ≤ 100000 ∧ g.client.size ≤ 100000 ∧ g.tenant.size ≤ 100000 ∧ g.session.size ≤ 100000 ∧ g.redirect.size ≤ 100000 ∧ g.nonce.size ≤ 100000 ∧ g.challenge.size ≤ 100000)
    (hs : Ss w A g.scopes.length c g.scopes) (hsh : Short g.scopes) (hn : g.scopes.length ≤ 1000) (hm : MX w) :
    Calls Tryz.prog 15 #[.pointer (some ⟨F, 0, none⟩), .string t, .agg #[.string g.user, .string g.client, .string g.tenant, .string g.session, .string g.redirect, .string g.nonce, .string g.challenge, .int .i64 g.method, (.slice A g.scopes.length c), .int .i64 g.auth, .int .i64 g.level], .int .i64 now] w fun e w' => e = .returned (.int .i64 x) ∧ RepB w' T F st' ∧ Mods T w w' := by
  obtain ⟨S, h, hS⟩ := h
  refine (iss_any h t g A c now ht hsz hs hsh hn hm).mono ?_
  intro e w' hN
  rw [hq] at hN
  exact num_b hN hS hT
theorem DG.keep {w w' : World} (h : DG w) (hk : w'.heap[0]? = w.heap[0]?) : DG w' := fun j hj => by
  rw [World.cell?_of_block (w := w) hk]; exact h j hj
theorem dg_blk {w : World} (h : DG w) : 0 < w.heap.size := World.block_lt_of_cell? w _ (h 0 (by omega))
theorem DG.mods {T : Nat → Prop} {w w' : World} (h : DG w) (hm : Mods T w w') (hT : ¬ T 0) : DG w' := h.keep (hm.block 0 (dg_blk h) hT)
theorem red_b {w : World} {T : Nat → Prop} {F : Nat} {st : Ct} (h : RepB w T F st) (t c r v : Bs) (now : Int) {q : Ct × (Gr × Int)} (hq : red st t c r (prv v) now = q) (ht : t.size ≤ 100000) (hv : v.size ≤ 100000) (hd : DG w) (h0 : ¬ T 0) :
    Calls Tryz.prog 17 #[.pointer (some ⟨F, 0, none⟩), .string t, .string c, .string r, .string v, .int .i64 now] w fun e w' => ∃ A d, e = .returned (.tuple #[.agg #[.string q.2.1.user, .string q.2.1.client, .string q.2.1.tenant, .string q.2.1.session, .string q.2.1.redirect, .string q.2.1.nonce, .string q.2.1.challenge, .int .i64 q.2.1.method, (.slice A q.2.1.scopes.length d), .int .i64 q.2.1.auth, .int .i64 q.2.1.level], .int .i64 q.2.2]) ∧ Ss w' A q.2.1.scopes.length d q.2.1.scopes ∧ (∀ a, A = some a → 0 < q.2.1.scopes.length → w.heap.size ≤ a.block) ∧ RepB w' (fun k => T k ∧ k < w.heap.size) F q.1 ∧ Mods T w w' := by
  obtain ⟨S, h, hS⟩ := h
  subst hq
  refine (red_any h t c r v now ht (prv v) (fun i x A n d w1 hx hk => prv_any x.g (h.inv.fr x (List.mem_of_getElem? hx)) A n d v w1 hv (DG.keep hd (hk 0 (dg_blk hd) (fun e => h0 (hS 0 e)))))).mono ?_
  rintro e w' ⟨A, d', h1, h2, h3, h4, h5⟩
  exact ⟨A, d', h1, h2, h3, ⟨S, h4, fun k e => ⟨hS k e, h.lt k e⟩⟩, Mods.mono h5 hS⟩
theorem len_b {w : World} {T : Nat → Prop} {F : Nat} {st : Ct} (h : RepB w T F st) {n : Nat} (hq : st.l.length = n) : Calls Tryz.prog 11 #[.pointer (some ⟨F, 0, none⟩)] w fun e w' => e = .returned (.int .i64 n) ∧ w = w' := by
  obtain ⟨S, h, hS⟩ := h
  subst hq
  exact len_any h
theorem used_b {w : World} {T : Nat → Prop} {F : Nat} {st : Ct} (h : RepB w T F st) (t : Bs) (ht : t.size ≤ 100000) {v : Bool} (hv : usedS st t = v) : Calls Tryz.prog 19 #[.pointer (some ⟨F, 0, none⟩), .string t] w fun e w' => e = .returned (.bool v) ∧ Below w.heap.size w w' := by
  obtain ⟨S, h, hS⟩ := h
  exact used_any h t ht hv
theorem att_b {w : World} {T : Nat → Prop} {F : Nat} {st : Ct} (h : RepB w T F st) (t : Bs) (ht : t.size ≤ 100000) {v : Bool} (hv : attS st t = v) : Calls Tryz.prog 20 #[.pointer (some ⟨F, 0, none⟩), .string t] w fun e w' => e = .returned (.bool v) ∧ Below w.heap.size w w' := by
  obtain ⟨S, h, hS⟩ := h
  exact att_any h t ht hv
theorem dropSes_b {w : World} {T : Nat → Prop} {F : Nat} {st st' : Ct} (h : RepB w T F st) (hT : ∀ k, w.heap.size ≤ k → T k) (s : Bs) {n : Nat} (hq : drN (isSes s) st = n) (hq2 : drS (isSes s) st = st') : Calls Tryz.prog 21 #[.pointer (some ⟨F, 0, none⟩), .string s] w fun e w' => e = .returned (.int .i64 n) ∧ RepB w' T F st' ∧ Mods T w w' := by
  obtain ⟨S, h, hS⟩ := h
  subst hq
  subst hq2
  exact (dropSes_any h s).mono fun e w' hN => num_b hN hS hT
theorem dropUsr_b {w : World} {T : Nat → Prop} {F : Nat} {st st' : Ct} (h : RepB w T F st) (hT : ∀ k, w.heap.size ≤ k → T k) (s : Bs) {n : Nat} (hq : drN (isUsr s) st = n) (hq2 : drS (isUsr s) st = st') : Calls Tryz.prog 25 #[.pointer (some ⟨F, 0, none⟩), .string s] w fun e w' => e = .returned (.int .i64 n) ∧ RepB w' T F st' ∧ Mods T w w' := by
  obtain ⟨S, h, hS⟩ := h
  subst hq
  subst hq2
  exact (dropUsr_any h s).mono fun e w' hN => num_b hN hS hT
theorem purge_b {w : World} {T : Nat → Prop} {F : Nat} {st st' : Ct} (h : RepB w T F st) (hT : ∀ k, w.heap.size ≤ k → T k) (now : Int) {n : Int} (hq : (st.l.length : Int) - ((puS st now).l.length : Int) = n) (hq2 : puS st now = st') : Calls Tryz.prog 22 #[.pointer (some ⟨F, 0, none⟩), .int .i64 now] w fun e w' => e = .returned (.int .i64 n) ∧ RepB w' T F st' ∧ Mods T w w' := by
  obtain ⟨S, h, hS⟩ := h
  subst hq
  subst hq2
  exact (purge_any h now).mono fun e w' hN => num_b hN hS hT
/-- One operation of the statements. -/
theorem do_b {w : World} {T : Nat → Prop} {F : Nat} {st : Ct} (h : RepB w T F st) (hT : ∀ k, w.heap.size ≤ k → T k) (x : Opc) (A : Option Addr) (d : Nat) (hs : Ss w A x.g.scopes.length d x.g.scopes) (hok : greatO x = false) (hm : MX w) (hd : DG w) (hS0 : ∀ k, T k → 2 ≤ k) {r : Ct × Rs} (hq : doC st x = r) :
    Calls Tryz.prog 9 #[.pointer (some ⟨F, 0, none⟩), .agg #[.int .i64 x.kind, .string x.code, .string x.cl, .string x.rd, .string x.ver, .string x.g.user, .string x.g.client, .string x.g.tenant, .string x.g.session, .string x.g.redirect, .string x.g.nonce, .string x.g.challenge, .int .i64 x.g.method, .slice A x.g.scopes.length d, .int .i64 x.g.auth, .int .i64 x.g.level, .int .i64 x.now]] w fun e w' => ∃ B d', e = .returned (.agg #[.string r.2.g.user, .string r.2.g.client, .string r.2.g.tenant, .string r.2.g.session, .string r.2.g.redirect, .string r.2.g.nonce, .string r.2.g.challenge, .int .i64 r.2.g.method, (.slice B r.2.g.scopes.length d'), .int .i64 r.2.g.auth, .int .i64 r.2.g.level, .int .i64 r.2.n, .bool r.2.yes, .bool r.2.also, .int .i64 r.2.e]) ∧ Ss w' B r.2.g.scopes.length d' r.2.g.scopes ∧ (∀ a, B = some a → 0 < r.2.g.scopes.length → w.heap.size ≤ a.block) ∧ RepB w' T F r.1 ∧ Mods T w w' := by
  obtain ⟨S, h, hS⟩ := h
  subst hq
  refine (do_any h x A d hs hok hm hd (fun k e => hS0 k (hS k e))).mono ?_
  rintro e w' ⟨B, d', h1, h2, h3, h4, h5⟩
  exact ⟨B, d', h1, h2, h3, ⟨_, h4, grow_T hS hT⟩, Mods.mono h5 hS⟩
/-- A block that the calls do not write. -/
theorem blk_mods {T : Nat → Prop} {w w' : World} {p : Nat} {o : Obj} (hm : Mods T w w') (h : w.heap[p]? = some o) (hT : ¬ T p) : w'.heap[p]? = some o := (hm.block p (blk_lt h) hT).trans h
theorem blk_below {w w' : World} {p : Nat} {o : Obj} (hb : Below w.heap.size w w') (h : w.heap[p]? = some o) : w'.heap[p]? = some o := (hb.block p (blk_lt h)).trans h
theorem mx_mods {T : Nat → Prop} {w w' : World} (h : MX w) (hm : Mods T w w') (hT : ¬ T 1) : MX w' := by
  obtain ⟨m, hm1⟩ := h
  exact ⟨m, (World.cell?_of_block (w := w) (hm.block 1 (World.block_lt_of_cell? w _ hm1) hT)).trans hm1⟩
theorem ss_mods {T : Nat → Prop} {w w' : World} {A : Option Addr} {n c : Nat} {l : List Bs} (h : Ss w A n c l) (hm : Mods T w w') (hT : ∀ a, A = some a → 0 < n → ¬ T a.block) : Ss w' A n c l := by
  refine ⟨h.1, h.2.1, fun hn => ?_⟩
  obtain ⟨b, off, e, hb, hc⟩ := h.2.2 hn
  refine ⟨b, off, e, Nat.lt_of_lt_of_le hb hm.size, fun i hi => ?_⟩
  rw [World.cell?_of_block (w := w) (hm.block b hb (hT _ e hn))]
  exact hc i hi
theorem cell_mods {T : Nat → Prop} {w w' : World} {a : Addr} {v : Value} (hm : Mods T w w') (h : w.cell? a = some v) (hT : ¬ T a.block) : w'.cell? a = some v := by
  rw [World.cell?_of_block (w := w) (hm.block a.block (World.block_lt_of_cell? w _ h) hT)]; exact h
end Go.Proofs.YtioabjniipkncaaGreatDoor.Rc
