/-
  How the reference's codes lie in memory; New, Len.
-/
import Derived.Test.YtioabjniipkncaaGreatDoorRcSb
import Derived.Maps.AppendAt
namespace Go.Proofs.YtioabjniipkncaaGreatDoor.Rc
open Go.RowKit Go.Proofs.YtioabjniipkncaaGreatDoor.Fo Go.Proofs.YtioabjniipkncaaGreatDoor.Rf Go.Maps

/-- A code and where its scopes lie. -/
abbrev CdE := Cd × Option Addr × Nat
def fl16 (e : CdE) : List Value := [.string e.1.w, .string e.1.g.user, .string e.1.g.client, .string e.1.g.tenant, .string e.1.g.session, .string e.1.g.redirect, .string e.1.g.nonce, .string e.1.g.challenge, .int .i64 e.1.g.method, .slice e.2.1 e.1.g.scopes.length e.2.2, .int .i64 e.1.g.auth, .int .i64 e.1.g.level, .int .i64 e.1.fin, .bool e.1.used, .bool e.1.att, .bool e.1.drp]
def flat16 : List CdE → List Value
  | [] => []
  | e :: r => fl16 e ++ flat16 r
theorem fl16_length (e : CdE) : (fl16 e).length = 16 := rfl
theorem flat16_length : ∀ l : List CdE, (flat16 l).length = l.length * 16
  | [] => rfl
  | e :: r => by rw [flat16, List.length_append, flat16_length r, fl16_length, List.length_cons]; omega
theorem flat16_append : ∀ l k : List CdE, flat16 (l ++ k) = flat16 l ++ flat16 k
  | [], _ => rfl
  | e :: r, k => by rw [List.cons_append, flat16, flat16, flat16_append r k, List.append_assoc]
theorem fl16_one (e : CdE) : ∀ u ∈ fl16 e, u.oneCell' = true := fun u h => by
  simp only [fl16, List.mem_cons, List.not_mem_nil, or_false] at h
  rcases h with h | h | h | h | h | h | h | h | h | h | h | h | h | h | h | h <;> (subst h; rfl)
theorem flat16_get : ∀ (l : List CdE) (i : Nat) (e : CdE) (j : Nat), l[i]? = some e → j < 16 → (flat16 l)[i * 16 + j]? = (fl16 e)[j]?
  | [], i, e, j, h, _ => by simp at h
  | x :: r, 0, e, j, h, hj => by
    injection h with h
    subst h
    rw [flat16, Nat.zero_mul, Nat.zero_add, List.getElem?_append_left (by rw [fl16_length]; exact hj)]
  | x :: r, i + 1, e, j, h, hj => by
    rw [flat16, List.getElem?_append_right (by rw [fl16_length]; omega), fl16_length, show (i + 1) * 16 + j - 16 = i * 16 + j by omega]
    exact flat16_get r i e j h hj
theorem flat16_set : ∀ (l : List CdE) (i : Nat) (e e' : CdE) (j : Nat) (u : Value), l[i]? = some e → j < 16 → (fl16 e).set j u = fl16 e' → (flat16 l).set (i * 16 + j) u = flat16 (l.set i e')
  | [], i, e, e', j, u, h, _, _ => by simp at h
  | x :: r, 0, e, e', j, u, h, hj, hs => by
    injection h with h
    subst h
    rw [Nat.zero_mul, Nat.zero_add, flat16, List.set_append_left _ _ (by rw [fl16_length]; exact hj), hs, List.set_cons_zero, flat16]
  | x :: r, i + 1, e, e', j, u, h, hj, hs => by
    rw [flat16, List.set_append_right _ _ (by rw [fl16_length]; omega), fl16_length, show (i + 1) * 16 + j - 16 = i * 16 + j by omega, flat16_set r i e e' j u h hj hs, List.set_cons_succ, flat16]
def OwnR (w : World) (v : Value) (l : List CdE) : Prop := w.ownsRow 0 74 16 v l.length (flat16 l)
theorem OwnR.nil (w : World) : OwnR w (.slice none 0 0) [] := World.ownsRow_nil _ _ _ _
theorem OwnR.form {w : World} {v : Value} {l : List CdE} (h : OwnR w v l) : (v = .slice none 0 0 ∧ l = []) ∨ ∃ g c, v = .slice (some ⟨g, 0, none⟩) l.length c ∧ g < w.heap.size := by
  rcases h.2 with ⟨hv, hn⟩ | ⟨g, cap, cur, hv, hg, hh, _⟩
  · exact Or.inl ⟨hv, List.eq_nil_of_length_eq_zero hn⟩
  · exact Or.inr ⟨g, cap, hv, (Array.getElem?_eq_some_iff.1 hh).1⟩
theorem OwnR.len {w : World} {v : Value} {l : List CdE} (h : OwnR w v l) : ∃ A c, v = .slice A l.length c := by
  rcases h.form with ⟨h1, h2⟩ | ⟨g, c, h1, _⟩
  · subst h2; exact ⟨none, 0, h1⟩
  · exact ⟨_, c, h1⟩
/-- Where an element lies. -/
theorem OwnR.at {w : World} {A : Option Addr} {c : Nat} {l : List CdE} (h : OwnR w (.slice A l.length c) l) {i : Nat} {e : CdE} (hi : l[i]? = some e) : ∃ g, A = some ⟨g, 0, none⟩ ∧ g < w.heap.size ∧ ∀ (j : Nat) (u : Value), (fl16 e)[j]? = some u → w.cell? ⟨g, i * 16 + j, none⟩ = some u := by
  have hl := (List.getElem?_eq_some_iff.1 hi).1
  rcases h.form with ⟨_, h2⟩ | ⟨g, c', h1, hg⟩
  · rw [h2] at hl; simp at hl
  · injection h1 with h1 _ h3
    subst h1
    subst h3
    refine ⟨g, rfl, hg, fun j u hj => ?_⟩
    have hj20 : j < 16 := (List.getElem?_eq_some_iff.1 hj).1
    have h2 := World.ownsRow.cells h (g := g) rfl (i * 16 + j) u (by rw [flat16_get l i e j hi hj20]; exact hj)
    have e2 : (⟨g, 0, none⟩ : Addr).add (i * 16 + j) = ⟨g, i * 16 + j, none⟩ := by unfold Addr.add; split <;> simp_all
    rw [e2] at h2
    exact h2
theorem OwnR.fz {w : World} {g n c : Nat} {l : List CdE} (h : OwnR w (.slice (some ⟨g, 0, none⟩) n c) l) (j : Nat) : w.frozen? ⟨g, j, none⟩ = false := by
  rcases h.2 with ⟨hv, _⟩ | ⟨g', cap, cur, hv, _, hh, _⟩
  · cases hv
  · injection hv with e1
    injection e1 with e1
    injection e1 with e1
    subst e1
    simp only [World.frozen?, hh]
    rfl
theorem OwnR.keep {w w' : World} {v : Value} {l : List CdE} (h : OwnR w v l) (hk : ∀ g, v.ownBlock = some g → w'.heap[g]? = w.heap[g]?) : OwnR w' v l := by
  refine ⟨h.1, ?_⟩
  rcases h.2 with hn | ⟨g, cap, cur, rfl, hb, hgg, rest⟩
  · exact Or.inl hn
  · exact Or.inr ⟨g, cap, cur, rfl, hb, (hk g rfl).trans hgg, rest⟩
theorem OwnR.lt {w : World} {v : Value} {l : List CdE} (h : OwnR w v l) (g : Nat) (hg : v.ownBlock = some g) : g < w.heap.size := by
  rcases h.form with ⟨h1, _⟩ | ⟨g', c, h1, h2⟩
  · rw [h1] at hg; cases hg
  · rw [h1] at hg; injection hg with hg; subst hg; exact h2
/-- A cell of an element is written. -/
theorem OwnR.set {w : World} {g c : Nat} {l : List CdE} (h : OwnR w (.slice (some ⟨g, 0, none⟩) l.length c) l) {i : Nat} {e e' : CdE} (hi : l[i]? = some e) {j : Nat} {u : Value} (hj : j < 16) (hs : (fl16 e).set j u = fl16 e') : OwnR (w.setCell ⟨g, i * 16 + j, none⟩ u) (.slice (some ⟨g, 0, none⟩) l.length c) (l.set i e') := by
  have h1 := (World.ownsRow.stored h (i * 16 + j) u).1
  rw [flat16_set l i e e' j u hi hj hs] at h1
  unfold OwnR
  rw [List.length_set]
  exact h1
/-- The reference's record: its blocks are those of S; those of I are never written. -/
structure RefP (w : World) (S I : Nat → Prop) (G : Nat) (st : Ct) (v : Value) (es : List CdE) : Prop where
  hG : w.heap[G]? = some (.cells #[.int .i64 st.life, v] 60 (0, 0))
  own : OwnR w v es
  hl : es.map Prod.fst = st.l
  tk : ∀ e ∈ es, Ss w e.2.1 e.1.g.scopes.length e.2.2 e.1.g.scopes ∧ ∀ a, e.2.1 = some a → 0 < e.1.g.scopes.length → I a.block
  sI : ∀ k, I k → S k
  sG : S G ∧ ¬ I G
  sv : ∀ g, v.ownBlock = some g → S g ∧ ¬ I g ∧ g ≠ G
  lt : ∀ k, S k → k < w.heap.size
  inv : Inv st
theorem RefP.keep {w w' : World} {S S' I : Nat → Prop} {G : Nat} {st : Ct} {v : Value} {es : List CdE} (h : RefP w S I G st v es) (hs : ∀ k, S k → S' k) (hk : ∀ k, S k → w'.heap[k]? = w.heap[k]?) (hz : w.heap.size ≤ w'.heap.size) (hl : ∀ k, S' k → k < w'.heap.size) : RefP w' S' I G st v es :=
  ⟨(hk _ h.sG.1).trans h.hG, h.own.keep (fun g hg => hk g (h.sv g hg).1), h.hl, fun e he => ⟨ss_keep (h.tk e he).1 (h.tk e he).2 (fun k hk2 => hk k (h.sI k hk2)) hz, (h.tk e he).2⟩, fun k e => hs k (h.sI k e), ⟨hs _ h.sG.1, h.sG.2⟩, fun g hg => ⟨hs _ (h.sv g hg).1, (h.sv g hg).2⟩, hl, h.inv⟩
theorem RefP.below {w w' : World} {S I : Nat → Prop} {G : Nat} {st : Ct} {v : Value} {es : List CdE} (h : RefP w S I G st v es) (hb : Below w.heap.size w w') : RefP w' S I G st v es :=
  h.keep (fun _ e => e) (fun k e => hb.block k (h.lt k e)) hb.size (fun k e => Nat.lt_of_lt_of_le (h.lt k e) hb.size)
def RefE (w : World) (S : Nat → Prop) (G : Nat) (st : Ct) : Prop := ∃ I v es, RefP w S I G st v es
theorem RefE.below {w w' : World} {S : Nat → Prop} {G : Nat} {st : Ct} (h : RefE w S G st) (hb : Below w.heap.size w w') : RefE w' S G st := by
  obtain ⟨a, b, c, h⟩ := h
  exact ⟨a, b, c, h.below hb⟩
theorem RefE.keep {w w' : World} {S S' : Nat → Prop} {G : Nat} {st : Ct} (h : RefE w S G st) (hs : ∀ k, S k → S' k) (hk : ∀ k, S k → w'.heap[k]? = w.heap[k]?) (hz : w.heap.size ≤ w'.heap.size) (hl : ∀ k, S' k → k < w'.heap.size) : RefE w' S' G st := by
  obtain ⟨a, b, c, h⟩ := h
  exact ⟨a, b, c, h.keep hs hk hz hl⟩
theorem RefE.lt {w : World} {S : Nat → Prop} {G : Nat} {st : Ct} (h : RefE w S G st) : ∀ k, S k → k < w.heap.size := by
  obtain ⟨a, b, c, h⟩ := h
  exact h.lt
theorem RefE.inv {w : World} {S : Nat → Prop} {G : Nat} {st : Ct} (h : RefE w S G st) : Inv st := by
  obtain ⟨a, b, c, h⟩ := h
  exact h.inv
theorem rref_grow {w' : World} {S : Nat → Prop} {G : Nat} {st : Ct} (w : World) (h : RefE w' S G st) : RefE w' (Go.Proofs.YtioabjniipkncaaGreatDoor.grow S w w') G st := by
  refine h.keep (fun _ e => Or.inl e) (fun _ _ => rfl) (Nat.le_refl _) (fun k e => ?_)
  rcases e with e | e
  · exact h.lt k e
  · exact e.2
theorem RefP.len {w : World} {S I : Nat → Prop} {G : Nat} {st : Ct} {v : Value} {es : List CdE} (h : RefP w S I G st v es) : es.length = st.l.length := by rw [← h.hl, List.length_map]
theorem RefP.get {w : World} {S I : Nat → Prop} {G : Nat} {st : Ct} {v : Value} {es : List CdE} (h : RefP w S I G st v es) {i : Nat} {e : CdE} (hi : es[i]? = some e) : st.l[i]? = some e.1 := by rw [← h.hl, List.getElem?_map, hi]; rfl
/-- R15.Instant. -/
theorem inst_any (n : Int) (w : World) : Calls Tryz.prog 24 #[.int .i64 n] w fun e w' => e = .returned (.int .i64 (limI n)) ∧ w = w' := by
  by_cases h1 : n < 0
  · have HV := Lib.hid (show limI n = 0 by unfold limI; omega)
    go_enter Tryz.func24, Tryz.ntmps24
    go_wp2
    go_ret
    exact ⟨ret_int HV.out.symm, rfl⟩
  · by_cases h2 : 1099511627776 < n
    · have HV := Lib.hid (show limI n = 1099511627776 by unfold limI; omega)
      go_enter Tryz.func24, Tryz.ntmps24
      go_wp2
      go_ret
      exact ⟨ret_int HV.out.symm, rfl⟩
    · have HV := Lib.hid (show limI n = n by unfold limI; omega)
      go_enter Tryz.func24, Tryz.ntmps24
      go_wp2
      go_ret
      exact ⟨ret_int HV.out.symm, rfl⟩
/-- New's answer. -/
def RNewIs (w : World) (l : Int) (e : Ending) (w' : World) : Prop :=
  if limI l = 0 then e = .returned (.tuple #[.pointer none, .int .i64 2]) ∧ w = w'
  else ∃ G, e = .returned (.tuple #[.pointer (some ⟨G, 0, none⟩), .int .i64 0]) ∧ RefE w' (fun k => k = w.heap.size) G ⟨limI l, []⟩ ∧ Below w.heap.size w w'
theorem ref_new (w : World) (a : Int) (h1 : 1 ≤ a) (h2 : a ≤ 1099511627776) : RefE (w.alloc (.cells #[.int .i64 a, .slice none 0 0] 60)) (fun k => k = w.heap.size) w.heap.size ⟨a, []⟩ :=
  ⟨fun _ => False, _, [], heap_alloc_new _ _, OwnR.nil _, rfl, fun e he => by simp at he, fun _ h => h.elim, ⟨rfl, fun h => h⟩, fun g hg => (by cases hg), fun k hk => (by rw [hk]; simp), inv_nil h1 h2⟩
theorem rnew_any (l : Int) (w : World) : Calls Tryz.prog 7 #[.int .i64 l] w (RNewIs w l) := by
  have r1 := limI_range l
  have hl := inst_any l w
  unfold RNewIs
  obtain ⟨a, ha⟩ : ∃ a, limI l = a := ⟨_, rfl⟩
  rw [ha] at r1 hl ⊢
  have HL := Lib.hid hl
  clear hl ha
  by_cases hx : a = 0
  · simp only [if_pos hx]
    have hxb : (a == 0) = true := by rw [hx]; rfl
    clear hx
    go_enter Tryz.func7, Tryz.ntmps7
    go_wp2_with fail
    refine HL.out.mono ?_
    rintro e w1 ⟨rfl, rfl⟩
    go_wp2
    go_ret2
    exact ⟨rfl, rfl⟩
  · simp only [if_neg hx]
    have hxb : (a == 0) = false := beq_eq_false_iff_ne.2 hx
    have HR := Lib.hid (ref_new w a (by omega) r1.2)
    clear hx
    go_enter Tryz.func7, Tryz.ntmps7
    go_wp2_with fail
    refine HL.out.mono ?_
    rintro e w1 ⟨rfl, rfl⟩
    go_wp2_with fail
    refine HL.out.mono ?_
    rintro e w1 ⟨rfl, rfl⟩
    go_wp2
    go_ret2
    exact ⟨w.heap.size, rfl, HR.out, by go_grown⟩
theorem rlen_any {w : World} {S : Nat → Prop} {G : Nat} {st : Ct} (h : RefE w S G st) :
    Calls Tryz.prog 12 #[.pointer (some ⟨G, 0, none⟩)] w fun e w' => e = .returned (.int .i64 (st.l.length : Nat)) ∧ w = w' := by
  obtain ⟨I, v, es, h⟩ := h
  obtain ⟨A, c, rfl⟩ := h.own.len
  have c1 := cell_block h.hG 1
  simp only [List.getElem?_toArray, List.getElem?_cons_zero, List.getElem?_cons_succ] at c1
  rw [h.len] at c1
  clear h
  go_enter Tryz.func12, Tryz.ntmps12
  go_wp2
  go_ret
  exact ⟨rfl, rfl⟩
end Go.Proofs.YtioabjniipkncaaGreatDoor.Rc
