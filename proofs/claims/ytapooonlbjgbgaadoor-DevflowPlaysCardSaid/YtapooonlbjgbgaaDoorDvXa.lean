/-
  How the reference's flows lie in memory; New, Made.
-/
import Derived.Test.YtapooonlbjgbgaaDoorDvT2
import Derived.Test.YtapooonlbjgbgaaDoorDvAl
import Derived.Maps.AppendAt
namespace Go.Proofs.YtapooonlbjgbgaaDoor.Dv
open Go.RowKit Go.Proofs.YtapooonlbjgbgaaDoor.Fo Go.Proofs.YtapooonlbjgbgaaDoor.Rf

/-- A flow, where its scopes lie and where its grant's scopes lie. -/
abbrev FwE := Fw × Option Addr × Nat × Option Addr × Nat
def fl20 (e : FwE) : List Value := [.string e.1.w, .string e.1.code, .string e.1.client, .slice e.2.1 e.1.scopes.length e.2.2.1, .int .i64 e.1.fin, .int .i64 e.1.iv, .int .i64 e.1.state, .int .i64 e.1.last, .bool e.1.polled, .string e.1.g.user, .string e.1.g.client, .string e.1.g.tenant, .string e.1.g.session, .string e.1.g.redirect, .string e.1.g.nonce, .string e.1.g.challenge, .int .i64 e.1.g.method, .slice e.2.2.2.1 e.1.g.scopes.length e.2.2.2.2, .int .i64 e.1.g.auth, .int .i64 e.1.g.level]
def flat20 : List FwE → List Value
  | [] => []
  | e :: r => fl20 e ++ flat20 r
theorem fl20_length (e : FwE) : (fl20 e).length = 20 := rfl
theorem flat20_length : ∀ l : List FwE, (flat20 l).length = l.length * 20
  | [] => rfl
  | e :: r => by rw [flat20, List.length_append, flat20_length r, fl20_length, List.length_cons]; omega
theorem flat20_append : ∀ l k : List FwE, flat20 (l ++ k) = flat20 l ++ flat20 k
  | [], _ => rfl
  | e :: r, k => by rw [List.cons_append, flat20, flat20, flat20_append r k, List.append_assoc]
theorem fl20_one (e : FwE) : ∀ u ∈ fl20 e, u.oneCell' = true := fun u h => by
  simp only [fl20, List.mem_cons, List.not_mem_nil, or_false] at h
  rcases h with h | h | h | h | h | h | h | h | h | h | h | h | h | h | h | h | h | h | h | h <;> (subst h; rfl)
theorem flat20_get : ∀ (l : List FwE) (i : Nat) (e : FwE) (j : Nat), l[i]? = some e → j < 20 → (flat20 l)[i * 20 + j]? = (fl20 e)[j]?
  | [], i, e, j, h, _ => by simp at h
  | x :: r, 0, e, j, h, hj => by
    injection h with h
    subst h
    rw [flat20, Nat.zero_mul, Nat.zero_add, List.getElem?_append_left (by rw [fl20_length]; exact hj)]
  | x :: r, i + 1, e, j, h, hj => by
    rw [flat20, List.getElem?_append_right (by rw [fl20_length]; omega), fl20_length, show (i + 1) * 20 + j - 20 = i * 20 + j by omega]
    exact flat20_get r i e j h hj
theorem flat20_set : ∀ (l : List FwE) (i : Nat) (e e' : FwE) (j : Nat) (u : Value), l[i]? = some e → j < 20 → (fl20 e).set j u = fl20 e' → (flat20 l).set (i * 20 + j) u = flat20 (l.set i e')
  | [], i, e, e', j, u, h, _, _ => by simp at h
  | x :: r, 0, e, e', j, u, h, hj, hs => by
    injection h with h
    subst h
    rw [Nat.zero_mul, Nat.zero_add, flat20, List.set_append_left _ _ (by rw [fl20_length]; exact hj), hs, List.set_cons_zero, flat20]
  | x :: r, i + 1, e, e', j, u, h, hj, hs => by
    rw [flat20, List.set_append_right _ _ (by rw [fl20_length]; omega), fl20_length, show (i + 1) * 20 + j - 20 = i * 20 + j by omega, flat20_set r i e e' j u h hj hs, List.set_cons_succ, flat20]
def OwnR (w : World) (v : Value) (l : List FwE) : Prop := w.ownsRow 0 86 20 v l.length (flat20 l)
theorem OwnR.nil (w : World) : OwnR w (.slice none 0 0) [] := World.ownsRow_nil _ _ _ _
theorem OwnR.form {w : World} {v : Value} {l : List FwE} (h : OwnR w v l) : (v = .slice none 0 0 ∧ l = []) ∨ ∃ g c, v = .slice (some ⟨g, 0, none⟩) l.length c ∧ g < w.heap.size := by
  rcases h.2 with ⟨hv, hn⟩ | ⟨g, cap, cur, hv, hg, hh, _⟩
  · exact Or.inl ⟨hv, List.eq_nil_of_length_eq_zero hn⟩
  · exact Or.inr ⟨g, cap, hv, (Array.getElem?_eq_some_iff.1 hh).1⟩
theorem OwnR.len {w : World} {v : Value} {l : List FwE} (h : OwnR w v l) : ∃ A c, v = .slice A l.length c := by
  rcases h.form with ⟨h1, h2⟩ | ⟨g, c, h1, _⟩
  · subst h2; exact ⟨none, 0, h1⟩
  · exact ⟨_, c, h1⟩
/-- Where an element lies. -/
theorem OwnR.at {w : World} {A : Option Addr} {c : Nat} {l : List FwE} (h : OwnR w (.slice A l.length c) l) {i : Nat} {e : FwE} (hi : l[i]? = some e) : ∃ g, A = some ⟨g, 0, none⟩ ∧ g < w.heap.size ∧ ∀ (j : Nat) (u : Value), (fl20 e)[j]? = some u → w.cell? ⟨g, i * 20 + j, none⟩ = some u := by
  have hl := (List.getElem?_eq_some_iff.1 hi).1
  rcases h.form with ⟨_, h2⟩ | ⟨g, c', h1, hg⟩
  · rw [h2] at hl; simp at hl
  · injection h1 with h1 _ h3
    subst h1
    subst h3
    refine ⟨g, rfl, hg, fun j u hj => ?_⟩
    have hj20 : j < 20 := (List.getElem?_eq_some_iff.1 hj).1
    have h2 := World.ownsRow.cells h (g := g) rfl (i * 20 + j) u (by rw [flat20_get l i e j hi hj20]; exact hj)
    have e2 : (⟨g, 0, none⟩ : Addr).add (i * 20 + j) = ⟨g, i * 20 + j, none⟩ := by unfold Addr.add; split <;> simp_all
    rw [e2] at h2
    exact h2
theorem OwnR.fz {w : World} {g n c : Nat} {l : List FwE} (h : OwnR w (.slice (some ⟨g, 0, none⟩) n c) l) (j : Nat) : w.frozen? ⟨g, j, none⟩ = false := by
  rcases h.2 with ⟨hv, _⟩ | ⟨g', cap, cur, hv, _, hh, _⟩
  · cases hv
  · injection hv with e1
    injection e1 with e1
    injection e1 with e1
    subst e1
    simp only [World.frozen?, hh]
    rfl
theorem OwnR.keep {w w' : World} {v : Value} {l : List FwE} (h : OwnR w v l) (hk : ∀ g, v.ownBlock = some g → w'.heap[g]? = w.heap[g]?) : OwnR w' v l := by
  refine ⟨h.1, ?_⟩
  rcases h.2 with hn | ⟨g, cap, cur, rfl, hb, hgg, rest⟩
  · exact Or.inl hn
  · exact Or.inr ⟨g, cap, cur, rfl, hb, (hk g rfl).trans hgg, rest⟩
theorem OwnR.lt {w : World} {v : Value} {l : List FwE} (h : OwnR w v l) (g : Nat) (hg : v.ownBlock = some g) : g < w.heap.size := by
  rcases h.form with ⟨h1, _⟩ | ⟨g', c, h1, h2⟩
  · rw [h1] at hg; cases hg
  · rw [h1] at hg; injection hg with hg; subst hg; exact h2
/-- A cell of an element is written. -/
theorem OwnR.set {w : World} {g c : Nat} {l : List FwE} (h : OwnR w (.slice (some ⟨g, 0, none⟩) l.length c) l) {i : Nat} {e e' : FwE} (hi : l[i]? = some e) {j : Nat} {u : Value} (hj : j < 20) (hs : (fl20 e).set j u = fl20 e') : OwnR (w.setCell ⟨g, i * 20 + j, none⟩ u) (.slice (some ⟨g, 0, none⟩) l.length c) (l.set i e') := by
  have h1 := (World.ownsRow.stored h (i * 20 + j) u).1
  rw [flat20_set l i e e' j u hi hj hs] at h1
  unfold OwnR
  rw [List.length_set]
  exact h1
/-- The reference's record: its blocks are those of S; those of I are never written. -/
structure RefP (w : World) (S I : Nat → Prop) (G : Nat) (st : Fs) (v : Value) (es : List FwE) : Prop where
  hG : w.heap[G]? = some (.cells #[.int .i64 (limI st.life), .int .i64 st.iv, v] 75 (0, 0))
  own : OwnR w v es
  hl : es.map Prod.fst = st.l
  sc : ∀ e ∈ es, Ss w e.2.1 e.1.scopes.length e.2.2.1 e.1.scopes ∧ ∀ a, e.2.1 = some a → 0 < e.1.scopes.length → I a.block
  tk : ∀ e ∈ es, Ss w e.2.2.2.1 e.1.g.scopes.length e.2.2.2.2 e.1.g.scopes ∧ ∀ a, e.2.2.2.1 = some a → 0 < e.1.g.scopes.length → I a.block
  sI : ∀ k, I k → S k
  sG : S G ∧ ¬ I G
  sv : ∀ g, v.ownBlock = some g → S g ∧ ¬ I g ∧ g ≠ G
  lt : ∀ k, S k → k < w.heap.size
  inv : Inv st
theorem RefP.keep {w w' : World} {S S' I : Nat → Prop} {G : Nat} {st : Fs} {v : Value} {es : List FwE} (h : RefP w S I G st v es) (hs : ∀ k, S k → S' k) (hk : ∀ k, S k → w'.heap[k]? = w.heap[k]?) (hz : w.heap.size ≤ w'.heap.size) (hl : ∀ k, S' k → k < w'.heap.size) : RefP w' S' I G st v es :=
  ⟨(hk _ h.sG.1).trans h.hG, h.own.keep (fun g hg => hk g (h.sv g hg).1), h.hl, fun e he => ⟨ss_keep (h.sc e he).1 (h.sc e he).2 (fun k hk2 => hk k (h.sI k hk2)) hz, (h.sc e he).2⟩, fun e he => ⟨ss_keep (h.tk e he).1 (h.tk e he).2 (fun k hk2 => hk k (h.sI k hk2)) hz, (h.tk e he).2⟩, fun k e => hs k (h.sI k e), ⟨hs _ h.sG.1, h.sG.2⟩, fun g hg => ⟨hs _ (h.sv g hg).1, (h.sv g hg).2⟩, hl, h.inv⟩
theorem RefP.below {w w' : World} {S I : Nat → Prop} {G : Nat} {st : Fs} {v : Value} {es : List FwE} (h : RefP w S I G st v es) (hb : Below w.heap.size w w') : RefP w' S I G st v es :=
  h.keep (fun _ e => e) (fun k e => hb.block k (h.lt k e)) hb.size (fun k e => Nat.lt_of_lt_of_le (h.lt k e) hb.size)
def RefE (w : World) (S : Nat → Prop) (G : Nat) (st : Fs) : Prop := ∃ I v es, RefP w S I G st v es
theorem RefE.below {w w' : World} {S : Nat → Prop} {G : Nat} {st : Fs} (h : RefE w S G st) (hb : Below w.heap.size w w') : RefE w' S G st := by
  obtain ⟨a, b, c, h⟩ := h
  exact ⟨a, b, c, h.below hb⟩
theorem RefE.keep {w w' : World} {S S' : Nat → Prop} {G : Nat} {st : Fs} (h : RefE w S G st) (hs : ∀ k, S k → S' k) (hk : ∀ k, S k → w'.heap[k]? = w.heap[k]?) (hz : w.heap.size ≤ w'.heap.size) (hl : ∀ k, S' k → k < w'.heap.size) : RefE w' S' G st := by
  obtain ⟨a, b, c, h⟩ := h
  exact ⟨a, b, c, h.keep hs hk hz hl⟩
theorem RefE.lt {w : World} {S : Nat → Prop} {G : Nat} {st : Fs} (h : RefE w S G st) : ∀ k, S k → k < w.heap.size := by
  obtain ⟨a, b, c, h⟩ := h
  exact h.lt
theorem RefE.inv {w : World} {S : Nat → Prop} {G : Nat} {st : Fs} (h : RefE w S G st) : Inv st := by
  obtain ⟨a, b, c, h⟩ := h
  exact h.inv
theorem RefP.len {w : World} {S I : Nat → Prop} {G : Nat} {st : Fs} {v : Value} {es : List FwE} (h : RefP w S I G st v es) : es.length = st.l.length := by rw [← h.hl, List.length_map]
theorem RefP.get {w : World} {S I : Nat → Prop} {G : Nat} {st : Fs} {v : Value} {es : List FwE} (h : RefP w S I G st v es) {i : Nat} {e : FwE} (hi : es[i]? = some e) : st.l[i]? = some e.1 := by rw [← h.hl, List.getElem?_map, hi]; rfl
theorem made_yes {w : World} {S : Nat → Prop} {G : Nat} {st : Fs} (h : RefE w S G st) : Calls Tryd.prog 54 #[.pointer (some ⟨G, 0, none⟩)] w fun e w' => e = .returned (.bool true) ∧ w = w' := by
  obtain ⟨I, v, es, h⟩ := h
  have c0 := cell_block h.hG 0
  simp only [List.getElem?_toArray, List.getElem?_cons_zero] at c0
  have hl : 0 < limI st.life := by have := h.inv.lf; unfold limI; omega
  generalize limI st.life = y at c0 hl
  clear h
  go_enter Tryd.func54, Tryd.ntmps54
  go_wp2
  go_ret
  exact ⟨rfl, rfl⟩
/-- New's answer. -/
def RNewIs (w : World) (l i : Int) (e : Ending) (w' : World) : Prop :=
  if l < 1 ∨ i < 1 then e = .returned (.tuple #[.pointer none, .int .i64 2]) ∧ w = w'
  else ∃ G, e = .returned (.tuple #[.pointer (some ⟨G, 0, none⟩), .int .i64 0]) ∧ RefE w' (fun k => k = w.heap.size) G (new0 l i) ∧ Below w.heap.size w w'
theorem ref_new (w : World) (l i : Int) (h1 : 1 ≤ l) (h2 : 1 ≤ i) : RefE (w.alloc (.cells #[.int .i64 (limI l), .int .i64 (limI i), .slice none 0 0] 75)) (fun k => k = w.heap.size) w.heap.size (new0 l i) :=
  ⟨fun _ => False, _, [], heap_alloc_new _ _, OwnR.nil _, rfl, fun e he => by simp at he, fun e he => by simp at he, fun _ h => h.elim, ⟨rfl, fun h => h⟩, fun g hg => (by cases hg), fun k hk => (by rw [hk]; simp), inv_nil h1 (by unfold limI; omega) (limI_range i).2⟩
theorem rnew_any (l i : Int) (w : World) : Calls Tryd.prog 16 #[.int .i64 l, .int .i64 i] w (RNewIs w l i) := by
  unfold RNewIs
  by_cases hx : l < 1 ∨ i < 1
  · simp only [if_pos hx]
    by_cases h1 : l < 1
    · clear hx
      go_enter Tryd.func16, Tryd.ntmps16
      go_wp2
      go_ret2
      exact ⟨rfl, rfl⟩
    · have h2 : i < 1 := by omega
      clear hx
      go_enter Tryd.func16, Tryd.ntmps16
      go_wp2
      go_ret2
      exact ⟨rfl, rfl⟩
  · simp only [if_neg hx]
    have h1 : ¬ l < 1 := by omega
    have h2 : ¬ i < 1 := by omega
    have HR := Lib.hid (ref_new w l i (by omega) (by omega))
    clear hx
    go_enter Tryd.func16, Tryd.ntmps16
    go_wp2_with fail
    refine (limit_any l w).mono ?_
    rintro e w1 ⟨rfl, rfl⟩
    go_wp2_with fail
    refine (limit_any i w).mono ?_
    rintro e w1 ⟨rfl, rfl⟩
    go_wp2
    go_ret2
    exact ⟨w.heap.size, rfl, HR.out, by go_grown⟩
end Go.Proofs.YtapooonlbjgbgaaDoor.Dv
