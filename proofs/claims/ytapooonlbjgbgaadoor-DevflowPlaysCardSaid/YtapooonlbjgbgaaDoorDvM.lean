/-
  How the program's flows lie in memory; New, ready, look-ups.
-/
import Derived.Test.YtapooonlbjgbgaaDoorDvC2
import Derived.Test.YtapooonlbjgbgaaDoorMapV
import Derived.Laws.Cover3
namespace Go.Proofs.YtapooonlbjgbgaaDoor.Dv
open Go.RowKit Go.Proofs.YtapooonlbjgbgaaDoor.Fo Go.Proofs.YtapooonlbjgbgaaDoor.Rf Go.Maps

theorem strT : Tryd.prog.underlying 9 = some .string := Tryd.underlying9
theorem map1 : Tryd.prog.underlying 64 = some (.map 9 77) := Tryd.underlying64
theorem zeroP (w : World) : (zeroValue 77).run Tryd.prog w = .ok (.pointer none) w := by kernel_rfl
theorem mx_le {s : Bs} (h : s.size ≤ 100000) : s.size ≤ maxLen := by unfold maxLen; omega
theorem blk_lt {w : World} {k : Nat} {o : Obj} (h : w.heap[k]? = some o) : k < w.heap.size := by
  rcases Nat.lt_or_ge k w.heap.size with h1 | h1
  · exact h1
  · rw [Array.getElem?_eq_none h1] at h; cases h
theorem cell_block {w : World} {b : Nat} {cs : Array Value} {t : TypeId} {fr : Nat × Nat} (h : w.heap[b]? = some (.cells cs t fr)) (i : Nat) : w.cell? ⟨b, i, none⟩ = cs[i]? := by simp [World.cell?, h]
theorem cell_below {w w' : World} {a : Addr} {v : Value} (hb : Below w.heap.size w w') (h : w.cell? a = some v) : w'.cell? a = some v := by
  rw [World.cell?_of_block (w := w) (hb.block a.block (World.block_lt_of_cell? w _ h))]; exact h
theorem blk_below {w w' : World} {p : Nat} {o : Obj} (hb : Below w.heap.size w w') (h : w.heap[p]? = some o) : w'.heap[p]? = some o := (hb.block p (blk_lt h)).trans h
theorem ss_keep {w w' : World} {A : Option Addr} {n c : Nat} {l : List Bs} {S : Nat → Prop} (h : Ss w A n c l) (hA : ∀ a, A = some a → 0 < n → S a.block) (hk : ∀ k, S k → w'.heap[k]? = w.heap[k]?) (hz : w.heap.size ≤ w'.heap.size) : Ss w' A n c l := by
  refine ⟨h.1, h.2.1, fun hn => ?_⟩
  obtain ⟨b, off, rfl, hl, hc⟩ := h.2.2 hn
  refine ⟨b, off, rfl, Nat.lt_of_lt_of_le hl hz, fun i hi => ?_⟩
  rw [World.cell?_of_block (w := w) (hk b (hA _ rfl hn))]
  exact hc i hi
/-- A flow in memory: I holds the blocks of its lists. -/
def FwP (w : World) (I : Nat → Prop) (b : Nat) (x : Fw) : Prop :=
  ∃ A c A2 c2, w.heap[b]? = some (.cells #[.string x.code, .string x.client, .slice A x.scopes.length c, .int .i64 x.fin, .int .i64 x.iv, .int .i64 x.state, .string x.g.user, .string x.g.client, .string x.g.tenant, .string x.g.session, .string x.g.redirect, .string x.g.nonce, .string x.g.challenge, .int .i64 x.g.method, .slice A2 x.g.scopes.length c2, .int .i64 x.g.auth, .int .i64 x.g.level, .bool x.polled, .int .i64 x.last] 81 (0, 0)) ∧ (Ss w A x.scopes.length c x.scopes ∧ ∀ a, A = some a → 0 < x.scopes.length → I a.block) ∧ Ss w A2 x.g.scopes.length c2 x.g.scopes ∧ ∀ a, A2 = some a → 0 < x.g.scopes.length → I a.block
/-- The program's record of flows in memory: its blocks are those of S; those of I are never written. -/
structure RepP (w : World) (S I : Nat → Prop) (F : Nat) (st : Fs) (M : Nat) (pl : List (Nat × Fw)) : Prop where
  hF : w.heap[F]? = some (.cells #[.int .i64 st.life, .int .i64 st.iv, .map (some M)] 66 (0, 0))
  h1 : ∃ f1, MapV Tryd.prog 9 ptrR w M pl.length f1 ∧ ∀ x d, f1 x = some d ↔ ∃ p ∈ pl, p.2.w.data.toList = x ∧ d = .lit (.int .i64 (p.1 : Nat))
  hl : pl.map Prod.snd = st.l
  hb : ∀ p ∈ pl, FwP w I p.1 p.2
  sb : ∀ p ∈ pl, S p.1 ∧ ¬ I p.1
  sI : ∀ k, I k → S k
  nd : (pl.map Prod.fst).Nodup
  sF : S F ∧ ¬ I F
  s1 : S M ∧ ¬ I M
  lt : ∀ k, S k → k < w.heap.size
  inv : Inv st
theorem FwP.keep {w w' : World} {I I' : Nat → Prop} {b : Nat} {x : Fw} (h : FwP w I b x) (hs : ∀ k, I k → I' k) (hb : w'.heap[b]? = w.heap[b]?) (hk : ∀ k, I k → w'.heap[k]? = w.heap[k]?) (hz : w.heap.size ≤ w'.heap.size) : FwP w' I' b x := by
  obtain ⟨A, c, A2, c2, h1, ⟨h2, h3⟩, h4, h5⟩ := h
  exact ⟨A, c, A2, c2, hb.trans h1, ⟨ss_keep h2 h3 hk hz, fun a ha hn => hs _ (h3 a ha hn)⟩, ss_keep h4 h5 hk hz, fun a ha hn => hs _ (h5 a ha hn)⟩
theorem RepP.keep {w w' : World} {S S' I : Nat → Prop} {F M : Nat} {st : Fs} {pl : List (Nat × Fw)} (h : RepP w S I F st M pl) (hs : ∀ k, S k → S' k) (hk : ∀ k, S k → w'.heap[k]? = w.heap[k]?) (hz : w.heap.size ≤ w'.heap.size) (hl : ∀ k, S' k → k < w'.heap.size) : RepP w' S' I F st M pl := by
  obtain ⟨f1, m1, v1⟩ := h.h1
  exact ⟨(hk _ h.sF.1).trans h.hF, ⟨f1, m1.frame (hk _ h.s1.1), v1⟩, h.hl, fun p hp => (h.hb p hp).keep (fun _ e => e) (hk _ (h.sb p hp).1) (fun k e => hk k (h.sI k e)) hz, fun p hp => ⟨hs _ (h.sb p hp).1, (h.sb p hp).2⟩, fun k e => hs k (h.sI k e), h.nd, ⟨hs _ h.sF.1, h.sF.2⟩, ⟨hs _ h.s1.1, h.s1.2⟩, hl, h.inv⟩
theorem RepP.below {w w' : World} {S I : Nat → Prop} {F M : Nat} {st : Fs} {pl : List (Nat × Fw)} (h : RepP w S I F st M pl) (hb : Below w.heap.size w w') : RepP w' S I F st M pl :=
  h.keep (fun _ e => e) (fun k e => hb.block k (h.lt k e)) hb.size (fun k e => Nat.lt_of_lt_of_le (h.lt k e) hb.size)
theorem RepP.grow {w w' : World} {S I : Nat → Prop} {F M : Nat} {st : Fs} {pl : List (Nat × Fw)} (h : RepP w S I F st M pl) (w0 : World) (hz : w.heap.size ≤ w'.heap.size) (hk : ∀ k, S k → w'.heap[k]? = w.heap[k]?) : RepP w' (grow S w0 w') I F st M pl :=
  h.keep (fun _ e => Or.inl e) hk hz (fun k e => by
    rcases e with e | e
    · exact Nat.lt_of_lt_of_le (h.lt k e) hz
    · exact e.2)
def RepE (w : World) (S : Nat → Prop) (F : Nat) (st : Fs) : Prop := ∃ I M pl, RepP w S I F st M pl
theorem RepE.below {w w' : World} {S : Nat → Prop} {F : Nat} {st : Fs} (h : RepE w S F st) (hb : Below w.heap.size w w') : RepE w' S F st := by
  obtain ⟨i, a, b, h⟩ := h
  exact ⟨i, a, b, h.below hb⟩
theorem RepE.keep {w w' : World} {S S' : Nat → Prop} {F : Nat} {st : Fs} (h : RepE w S F st) (hs : ∀ k, S k → S' k) (hk : ∀ k, S k → w'.heap[k]? = w.heap[k]?) (hz : w.heap.size ≤ w'.heap.size) (hl : ∀ k, S' k → k < w'.heap.size) : RepE w' S' F st := by
  obtain ⟨i, a, b, h⟩ := h
  exact ⟨i, a, b, h.keep hs hk hz hl⟩
theorem RepE.lt {w : World} {S : Nat → Prop} {F : Nat} {st : Fs} (h : RepE w S F st) : ∀ k, S k → k < w.heap.size := by
  obtain ⟨i, a, b, h⟩ := h
  exact h.lt
theorem RepE.inv {w : World} {S : Nat → Prop} {F : Nat} {st : Fs} (h : RepE w S F st) : Inv st := by
  obtain ⟨i, a, b, h⟩ := h
  exact h.inv
theorem ref_grow (wx : World) {w' : World} {S : Nat → Prop} {F : Nat} {st : Fs} (h : RepE w' S F st) : RepE w' (Go.Proofs.YtapooonlbjgbgaaDoor.grow S wx w') F st :=
  h.keep (fun _ e => Or.inl e) (fun _ _ => rfl) (Nat.le_refl _) (fun k e => by
    rcases e with e | e
    · exact h.lt k e
    · exact e.2)
def new0 (l i : Int) : Fs := ⟨l, limI i, limI i, []⟩
/-- New's answer. -/
def NewIs (w : World) (l i : Int) (e : Ending) (w' : World) : Prop :=
  if l < 1 ∨ i < 1 then e = .returned (.tuple #[.pointer none, .int .i64 2]) ∧ w = w'
  else ∃ F, e = .returned (.tuple #[.pointer (some ⟨F, 0, none⟩), .int .i64 0]) ∧ RepE w' (Go.Proofs.YtapooonlbjgbgaaDoor.grow (fun _ => False) w w') F (new0 l i) ∧ Below w.heap.size w w'
theorem rep_new (w : World) (a b : Int) (h1 : 1 ≤ a) (h2 : 1 ≤ b) (h3 : b ≤ 1099511627776) :
    RepE ((w.alloc (.map #[] 0)).alloc (.cells #[.int .i64 a, .int .i64 b, .map (some w.heap.size)] 66)) (Go.Proofs.YtapooonlbjgbgaaDoor.grow (fun _ => False) w ((w.alloc (.map #[] 0)).alloc (.cells #[.int .i64 a, .int .i64 b, .map (some w.heap.size)] 66))) (w.heap.size + 1) ⟨a, b, b, []⟩ := by
  have z1 : (w.alloc (.map #[] 0)).heap.size = w.heap.size + 1 := by simp
  refine ⟨fun _ => False, w.heap.size, [], ?_, ⟨fun _ => none, ?_, fun x d => ⟨(fun h => by cases h), (fun ⟨p, hp, _⟩ => by simp at hp)⟩⟩, rfl, (fun p hp => by simp at hp), (fun p hp => by simp at hp), (fun _ h => h.elim), List.Pairwise.nil, ⟨?_, fun h => h⟩, ⟨?_, fun h => h⟩, fun k hk => ?_, inv_nil h1 h2 h3⟩
  · rw [← z1]; exact heap_alloc_new _ _
  · have := MapV.made w Tryd.prog 9 ptrR
    exact this.frame (w' := (w.alloc (.map #[] 0)).alloc _) (Below.heap_alloc _ _ _ (by rw [z1]; omega))
  · exact Or.inr ⟨by omega, by simp only [World.size_alloc]; omega⟩
  · exact Or.inr ⟨by omega, by simp only [World.size_alloc]; omega⟩
  · rcases hk with hk | hk
    · exact hk.elim
    · exact hk.2
theorem lim_pos {i : Int} (h : 1 ≤ i) : 1 ≤ limI i := by unfold limI; omega
theorem new_any (l i : Int) (w : World) : Calls Tryd.prog 15 #[.int .i64 l, .int .i64 i] w (NewIs w l i) := by
  unfold NewIs
  by_cases h1 : l < 1
  · simp only [if_pos (show l < 1 ∨ i < 1 from Or.inl h1)]
    go_enter Tryd.func15, Tryd.ntmps15
    go_wp2
    go_ret2
    exact ⟨rfl, rfl⟩
  · by_cases h2 : i < 1
    · simp only [if_pos (show l < 1 ∨ i < 1 from Or.inr h2)]
      go_enter Tryd.func15, Tryd.ntmps15
      go_wp2
      go_ret2
      exact ⟨rfl, rfl⟩
    · simp only [if_neg (show ¬ (l < 1 ∨ i < 1) by omega)]
      have HR := Lib.hid (rep_new w l (limI i) (by omega) (lim_pos (by omega)) (limI_range i).2)
      have hadd := add_any i 0 w
      rw [addC_zero] at hadd
      unfold new0
      generalize limI i = b at HR hadd ⊢
      have HA := Lib.hid hadd
      clear hadd
      have hmm := @run_makeMap Tryd.prog
      go_enter Tryd.func15, Tryd.ntmps15
      go_wp2_with fail
      refine HA.out.mono ?_
      rintro e w1 ⟨rfl, rfl⟩
      go_wp2
      go_ret2
      exact ⟨w.heap.size + 1, rfl, HR.out, by go_grown⟩
section
variable {w : World} {S I : Nat → Prop} {F M : Nat} {st : Fs} {pl : List (Nat × Fw)}
theorem RepP.c0 (h : RepP w S I F st M pl) : w.cell? ⟨F, 0, none⟩ = some (.int .i64 st.life) := cell_block h.hF 0
theorem RepP.c1 (h : RepP w S I F st M pl) : w.cell? ⟨F, 1, none⟩ = some (.int .i64 st.iv) := cell_block h.hF 1
theorem RepP.c2 (h : RepP w S I F st M pl) : w.cell? ⟨F, 2, none⟩ = some (.map (some M)) := cell_block h.hF 2
theorem ready_yes (h : RepP w S I F st M pl) : Calls Tryd.prog 47 #[.pointer (some ⟨F, 0, none⟩)] w fun e w' => e = .returned (.bool true) ∧ w = w' := by
  have c2 := h.c2
  clear h
  have hq : (binOp .neq 64 (.map (some M)) (.map none)).run Tryd.prog w = .ok (.bool true) w := run_neq_map_nil w _ _ _ _ map1
  go_enter Tryd.func47, Tryd.ntmps47
  go_wp2
  go_ret
  exact ⟨rfl, rfl⟩
theorem look_no (h : RepP w S I F st M pl) (i : Bs) (hi : i.size ≤ 100000) (hn : cdI st.l i = none) :
    (Instr.lookup 64 (.map (some M)) (.string i) false).run Tryd.prog w = .ok (.pointer none) w := by
  obtain ⟨f1, m1, v1⟩ := h.h1
  have hf : f1 i.data.toList = none := by
    cases hx : f1 i.data.toList with
    | none => rfl
    | some d =>
      obtain ⟨p, hp, e, _⟩ := (v1 _ _).1 hx
      exact absurd (bs_ext e) (cdI_none.1 hn p.2 (by rw [← h.hl]; exact List.mem_map.2 ⟨p, hp, rfl⟩))
  exact m1.look_no strT map1 (zeroP w) (mx_le hi) hf false
theorem look_yes (h : RepP w S I F st M pl) (p : Nat × Fw) (hp : p ∈ pl) :
    (Instr.lookup 64 (.map (some M)) (.string p.2.w) false).run Tryd.prog w = .ok (.pointer (some ⟨p.1, 0, none⟩)) w := by
  obtain ⟨f1, m1, v1⟩ := h.h1
  have hf : f1 p.2.w.data.toList = some (.lit (.int .i64 (p.1 : Nat))) := (v1 _ _).2 ⟨p, hp, rfl, rfl⟩
  have hz := h.inv.sz p.2 (by rw [← h.hl]; exact List.mem_map.2 ⟨p, hp, rfl⟩)
  obtain ⟨v, ps, hv, hr⟩ := m1.look_yes strT map1 (zeroP w) (mx_le (by omega)) hf false
  rw [ptrR_at hv] at hr
  exact hr
theorem look_at (h : RepP w S I F st M pl) {i b : Nat} {x : Fw} {t : Bs} (hb : pl[i]? = some (b, x)) (ht : x.w = t) :
    (Instr.lookup 64 (.map (some M)) (.string t) false).run Tryd.prog w = .ok (.pointer (some ⟨b, 0, none⟩)) w := by
  subst ht
  exact look_yes h (b, x) (List.mem_of_getElem? hb)
theorem len_run (h : RepP w S I F st M pl) (ty : TypeId) : (Builtin.len_ #[64] ty #[.map (some M)]).run Tryd.prog w = .ok (.int .i64 (st.l.length : Int)) w := by
  obtain ⟨f1, m1, v1⟩ := h.h1
  have := m1.len map1 ty
  rw [show pl.length = st.l.length by rw [← h.hl, List.length_map]] at this
  exact this
end
theorem pl_at {st : Fs} {pl : List (Nat × Fw)} (hl : pl.map Prod.snd = st.l) {i : Nat} {x : Fw} (h : st.l[i]? = some x) : ∃ b, pl[i]? = some (b, x) := by
  rw [← hl, List.getElem?_map] at h
  cases hp : pl[i]? with
  | none => rw [hp] at h; cases h
  | some p => rw [hp] at h; obtain ⟨b, y⟩ := p; injection h with h; subst h; exact ⟨b, rfl⟩
theorem snd_mem {pl : List (Nat × Fw)} {l : List Fw} (hl : pl.map Prod.snd = l) {p : Nat × Fw} (hp : p ∈ pl) : p.2 ∈ l := by rw [← hl]; exact List.mem_map.2 ⟨p, hp, rfl⟩
theorem RepP.apart {w : World} {S I : Nat → Prop} {F M : Nat} {st : Fs} {pl : List (Nat × Fw)} (h : RepP w S I F st M pl) {q : Nat × Fw} (hq : q ∈ pl) : M ≠ q.1 ∧ F ≠ q.1 := by
  obtain ⟨A, c, A2, c2, hb, _⟩ := h.hb q hq
  refine ⟨fun e => ?_, fun e => ?_⟩
  · obtain ⟨f1, m1, _⟩ := h.h1
    obtain ⟨es, cl, hm⟩ := m1.isMap
    rw [e, hb] at hm
    cases hm
  · have h2 := h.hF
    rw [e, hb] at h2
    injection h2 with h2
    injection h2 with h3 h4
    exact absurd h4 (by decide)
theorem RepP.fm {w : World} {S I : Nat → Prop} {F M : Nat} {st : Fs} {pl : List (Nat × Fw)} (h : RepP w S I F st M pl) : F ≠ M := fun e => by
  obtain ⟨f1, m1, _⟩ := h.h1
  obtain ⟨es, cl, hmm⟩ := m1.isMap
  have := h.hF
  rw [e, hmm] at this
  cases this
end Go.Proofs.YtapooonlbjgbgaaDoor.Dv
