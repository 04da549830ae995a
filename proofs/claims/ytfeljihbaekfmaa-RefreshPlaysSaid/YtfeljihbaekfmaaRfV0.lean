/-
  One family rotated, in memory.
-/
import Derived.Test.YtfeljihbaekfmaaRfT0
namespace Go.Proofs.Ytfeljihbaekfmaa.Rf
open Go.RowKit Go.Proofs.Ytfeljihbaekfmaa.Fo Go.Maps

theorem inv_rot {st : St} (h : Inv st) {i : Nat} {x : Fm} (hx : st.l[i]? = some x) {n : Bs} {now : Int} (hn : wrd n = true) (h1 : tokI st.l n = none) (h2 : ¬ 256 ≤ x.toks.length) : Inv { st with l := st.l.set i (rotF st x n now) } := by
  have n1 := tokI_none.1 h1
  have hxm := List.mem_of_getElem? hx
  have r1 := addC_range now st.life
  have hgx := h.rg x hxm
  have key : ∀ y ∈ st.l.set i (rotF st x n now), y = rotF st x n now ∨ y ∈ st.l := fun y hy => by
    rcases mem_set hy with rfl | ⟨j, _, hj⟩
    · exact Or.inl rfl
    · exact Or.inr (List.mem_of_getElem? hj)
  have two : ∀ y ∈ st.l.set i (rotF st x n now), ∀ t, t ∈ y.toks → (t = n ∧ y.id = x.id) ∨ ∃ z ∈ st.l, z.id = y.id ∧ t ∈ z.toks := fun y hy t ht => by
    rcases key y hy with rfl | hy'
    · simp only [rotF, List.mem_append, List.mem_singleton] at ht
      rcases ht with ht | ht
      · exact Or.inr ⟨x, hxm, rfl, ht⟩
      · exact Or.inl ⟨ht, rfl⟩
    · exact Or.inr ⟨y, hy', rfl, ht⟩
  refine ⟨?_, ?_, ?_, ?_, by simpa using h.len, ?_, ?_, ?_, ?_, h.lf⟩
  · rw [map_set_same (f := Fm.id) (y := rotF st x n now) hx rfl]; exact h.ids
  · intro y hy z hz t k1 k2
    rcases two y hy t k1 with ⟨e1, e2⟩ | ⟨y', hy', e2, k1'⟩ <;> rcases two z hz t k2 with ⟨e3, e4⟩ | ⟨z', hz', e4, k2'⟩
    · rw [e2, e4]
    · rw [e1] at k2'; exact absurd k2' (n1 z' hz')
    · rw [e3] at k1'; exact absurd k1' (n1 y' hy')
    · rw [← e2, ← e4]; exact h.tk y' hy' z' hz' t k1' k2'
  · intro y hy
    rcases key y hy with rfl | hy'
    · simp only [rotF]
      rw [List.nodup_append]
      exact ⟨h.nd x hxm, by simp, fun a ha b hb e => by simp at hb; subst hb; subst e; exact n1 x hxm ha⟩
    · exact h.nd y hy'
  · intro y hy
    rcases key y hy with rfl | hy'
    · simp [rotF]
    · exact h.ne y hy'
  · intro y hy
    rcases key y hy with rfl | hy'
    · simp [rotF]; omega
    · exact h.tl y hy'
  · intro y hy
    rcases key y hy with rfl | hy'
    · refine ⟨(h.sz x hxm).1, fun t ht => ?_⟩
      simp only [rotF, List.mem_append, List.mem_singleton] at ht
      rcases ht with ht | ht
      · exact (h.sz x hxm).2 t ht
      · subst ht; exact (wrd_sz hn).2
    · exact h.sz y hy'
  · intro y hy
    rcases key y hy with rfl | hy'
    · exact h.sc x hxm
    · exact h.sc y hy'
  · intro y hy
    rcases key y hy with rfl | hy'
    · simp only [rotF]; omega
    · exact h.rg y hy'
theorem ntok_set {l : List Fm} {i : Nat} {x : Fm} (hx : l[i]? = some x) {st : St} {n : Bs} {now : Int} : ntok (l.set i (rotF st x n now)) = ntok l + 1 := by
  unfold ntok
  induction l generalizing i with
  | nil => simp at hx
  | cons y r ih =>
    cases i with
    | zero =>
      simp at hx
      subst hx
      simp [rotF]
      omega
    | succ i =>
      have := ih (i := i) (by simpa using hx)
      simp only [List.set_cons_succ, List.map_cons, List.sum_cons, this]
      omega
/-- A token more: the map of tokens is written; then what the family's block holds is all that is wanted. -/
theorem rep_rot {w5 : World} {S I : Nat → Prop} {F M1 M2 : Nat} {st : St} {pl : List (Nat × Fm)} (h : RepP w5 S I F st M1 M2 pl) {i b : Nat} {x : Fm} {t n : Bs} {now : Int} (hx : st.l[i]? = some x) (hb : pl[i]? = some (b, x)) (htx : t ∈ x.toks) (hn : wrd n = true) (h1 : tokI st.l n = none) (h2 : ¬ 256 ≤ x.toks.length) :
    ∃ w6, (Instr.mapUpdate 62 (.map (some M2)) (.string n) (.string x.id)).run Try.prog w5.drew = .ok () w6 ∧ w6.cell? ⟨F, 3, none⟩ = some (.map (some M2)) ∧
      (Instr.lookup 62 (.map (some M2)) (.string t) false).run Try.prog w6 = .ok (.string x.id) w6 ∧ (∀ k, k < w5.heap.size → k ≠ M2 → w6.heap[k]? = w5.heap[k]?) ∧ M2 ≠ b ∧ F ≠ b ∧ w5.drew.mapTurned w6 M2 ∧
      ∀ w9 A cc, w9.heap[b]? = some (.cells #[.string (rotF st x n now).g.user, .string (rotF st x n now).g.client, .string (rotF st x n now).g.tenant, .string (rotF st x n now).g.session, .string (rotF st x n now).g.redirect, .string (rotF st x n now).g.nonce, .string (rotF st x n now).g.challenge, .int .i64 (rotF st x n now).g.method, (.slice A x.g.scopes.length cc), .int .i64 (rotF st x n now).g.auth, .int .i64 (rotF st x n now).g.level, .int .i64 (rotF st x n now).fin, .int .i64 (rotF st x n now).untl, .int .i64 ((rotF st x n now).toks.length : Nat), .string (cur (rotF st x n now)), .bool (rotF st x n now).ended] 75 (0, 0)) → (∀ a, A = some a → 0 < x.g.scopes.length → I a.block) → Ss w5 A x.g.scopes.length cc x.g.scopes → (∀ k, S k → k ≠ b → w9.heap[k]? = w6.heap[k]?) → w6.heap.size ≤ w9.heap.size →
        RepP w9 S I F { st with l := st.l.set i (rotF st x n now) } M1 M2 (pl.set i (b, rotF st x n now)) := by
  have hm : (b, x) ∈ pl := List.mem_of_getElem? hb
  have hxm := List.mem_of_getElem? hx
  obtain ⟨sq, iq⟩ := h.sb _ hm
  obtain ⟨A0, c0, hq1, _⟩ := h.hb _ hm
  obtain ⟨f1, m1, v1⟩ := h.h1
  obtain ⟨f2, m2, v2⟩ := h.h2
  have hM2 := h.lt _ h.s2.1
  have hM1 := h.lt _ h.s1.1
  have hF := h.lt _ h.sF.1
  have hbl := h.lt _ sq
  have nM1 : M1 ≠ b := fun e => by
    obtain ⟨es, cl, hmm⟩ := m1.isMap
    rw [e, hq1] at hmm
    cases hmm
  have nM2 : M2 ≠ b := fun e => by
    obtain ⟨es, cl, hmm⟩ := m2.isMap
    rw [e, hq1] at hmm
    cases hmm
  have nF : F ≠ b := fun e => by
    have := h.hF
    rw [e, hq1] at this
    cases this
  have nFM : F ≠ M2 := fun e => by
    obtain ⟨es, cl, hmm⟩ := m2.isMap
    rw [← e, h.hF] at hmm
    cases hmm
  have m2' : MapV Try.prog 9 (plainElem Try.prog 9) w5.drew M2 (ntok st.l) f2 := m2.frame rfl
  have hnt := h.inv.ntok
  have hns := wrd_sz hn
  have hxs := (h.inv.sz x hxm).1
  have hts := (h.inv.sz x hxm).2 t htx
  obtain ⟨w6, hr, m2'', ht6⟩ := m2'.store (v := .string x.id) strT map2 (by unfold maxLen; omega) (mx_le (s := n) (by omega)) (plainElem_string strT (mx_le (s := x.id) (by omega)))
  have g6 := ht6.grown
  have hk6 : ∀ k, k < w5.heap.size → k ≠ M2 → w6.heap[k]? = w5.heap[k]? := fun k hk hne => g6.block k hk fun e => hne (by injection e)
  have hn2 : f2 n.data.toList = none := by
    cases hq : f2 n.data.toList with
    | none => rfl
    | some dd =>
      obtain ⟨m, hm2, ⟨s, hs, e⟩, _⟩ := (v2 _ _).1 hq
      rw [bs_ext e] at hs
      exact absurd hs (tokI_none.1 h1 m hm2)
  rw [hn2] at m2''
  have htn : t.data.toList ≠ n.data.toList := fun e => by
    have := bs_ext e
    subst this
    exact tokI_none.1 h1 x hxm htx
  have hft : f2 t.data.toList = some (.lit (.string x.id.data.toList)) := (v2 _ _).2 ⟨x, hxm, ⟨t, htx, rfl⟩, rfl⟩
  refine ⟨w6, hr, ?_, ?_, hk6, nM2, nF, ht6, ?_⟩
  · rw [World.cell?_of_block (w := w5) (hk6 F hF nFM)]
    exact h.c3
  · obtain ⟨v, ps, hv, hr2⟩ := m2''.look_yes strT map2 (zeroS w6) (mx_le (s := t) (by omega)) (show (fun y => if y = n.data.toList then some (DataW.lit (Lit.string x.id.data.toList)) else f2 y) t.data.toList = some (.lit (.string x.id.data.toList)) by simp only [if_neg htn]; exact hft) false
    rw [plain_str hv, bs_of] at hr2
    exact hr2
  · intro w9 A cc hb9 hIA hss hk9 hz9
    have hz6 : w5.heap.size ≤ w6.heap.size := g6.size
    have hkS : ∀ k, S k → k ≠ b → k ≠ M2 → w9.heap[k]? = w5.heap[k]? := fun k hk hn1 hn2 => (hk9 k hk hn1).trans (hk6 k (h.lt k hk) hn2)
    have hkI : ∀ k, I k → w9.heap[k]? = w5.heap[k]? := fun k hk => hkS k (h.sI k hk) (fun e => iq (by rw [← e]; exact hk)) (fun e => h.s2.2 (by rw [← e]; exact hk))
    have hA : (pl.set i (b, rotF st x n now)).map (fun q => (q.1, q.2.id)) = pl.map (fun q => (q.1, q.2.id)) := map_set_same hb rfl
    refine ⟨(hkS F h.sF.1 nF nFM).trans h.hF, ⟨f1, by rw [List.length_set]; exact m1.frame (hkS M1 h.s1.1 nM1 h.hm), fun y d => ?_⟩, ⟨_, by rw [ntok_set hx]; exact m2''.frame (hk9 M2 h.s2.1 nM2), fun y d => ?_⟩, by simp only [List.map_set, h.hl], fun q hq => ?_, fun q hq => ?_, h.sI, ?_, h.hm, h.sF, h.s1, h.s2, fun k hk => by have := h.lt k hk; omega, inv_rot h.inv hx hn h1 h2⟩
    · rw [v1]
      constructor
      · rintro ⟨p, hp, e1, e2⟩
        obtain ⟨q, hq, e⟩ := mem_map_eq hA hp
        simp only [Prod.mk.injEq] at e
        exact ⟨q, hq, by rw [e.2]; exact e1, by rw [e.1]; exact e2⟩
      · rintro ⟨p, hp, e1, e2⟩
        obtain ⟨q, hq, e⟩ := mem_map_eq hA.symm hp
        simp only [Prod.mk.injEq] at e
        exact ⟨q, hq, by rw [e.2]; exact e1, by rw [e.1]; exact e2⟩
    · have hi : i < st.l.length := (List.getElem?_eq_some_iff.1 hx).1
      have hset : rotF st x n now ∈ st.l.set i (rotF st x n now) := List.mem_iff_getElem?.2 ⟨i, by rw [List.getElem?_set]; simp [hi]⟩
      by_cases e : y = n.data.toList
      · subst e
        simp only [if_true]
        constructor
        · intro hh
          injection hh with hh
          exact ⟨_, hset, ⟨n, by simp [rotF], rfl⟩, hh.symm⟩
        · rintro ⟨m, hm2, ⟨s, hs, e1⟩, e2⟩
          rw [bs_ext e1] at hs
          rcases mem_set hm2 with rfl | ⟨j, _, hj⟩
          · rw [e2]; rfl
          · exact absurd hs (tokI_none.1 h1 m (List.mem_of_getElem? hj))
      · simp only [if_neg e]
        rw [v2]
        constructor
        · rintro ⟨m, hm2, ⟨s, hs, e1⟩, e2⟩
          obtain ⟨j, hj⟩ := List.getElem?_of_mem hm2
          by_cases hji : j = i
          · subst hji
            rw [hx] at hj
            injection hj with hj
            subst hj
            exact ⟨_, hset, ⟨s, by simp only [rotF]; exact List.mem_append.2 (Or.inl hs), e1⟩, e2⟩
          · exact ⟨m, List.mem_iff_getElem?.2 ⟨j, by rw [List.getElem?_set, if_neg (fun e => hji e.symm)]; exact hj⟩, ⟨s, hs, e1⟩, e2⟩
        · rintro ⟨m, hm2, ⟨s, hs, e1⟩, e2⟩
          rcases mem_set hm2 with rfl | ⟨j, _, hj⟩
          · simp only [rotF, List.mem_append, List.mem_singleton] at hs
            rcases hs with hs | hs
            · exact ⟨x, hxm, ⟨s, hs, e1⟩, e2⟩
            · subst hs; exact absurd e1.symm e
          · exact ⟨m, List.mem_of_getElem? hj, ⟨s, hs, e1⟩, e2⟩
    · rcases mem_set hq with rfl | ⟨j, hj, hq2⟩
      · exact ⟨A, cc, hb9, hss.keep (S := I) hIA hkI (by omega), hIA⟩
      · have hqm := List.mem_of_getElem? hq2
        have hne : q.1 ≠ b := fun e => by
          have e1 : (pl.map Prod.fst)[j]? = some b := by rw [List.getElem?_map, hq2]; exact congrArg some e
          have e2 : (pl.map Prod.fst)[i]? = some b := by rw [List.getElem?_map, hb]; rfl
          exact hj (nodup_at h.nd e1 e2)
        have hne2 : q.1 ≠ M2 := fun e => by
          obtain ⟨A', c', hcell, _⟩ := h.hb q hqm
          obtain ⟨es, cl, hmm⟩ := m2.isMap
          rw [← e, hcell] at hmm
          cases hmm
        exact (h.hb q hqm).keep (fun _ e => e) (hkS q.1 (h.sb q hqm).1 hne hne2) hkI (by omega)
    · obtain ⟨p, hp, e⟩ := mem_map_eq hA.symm hq
      simp only [Prod.mk.injEq] at e
      rw [← e.1]
      exact h.sb p hp
    · have := congrArg (List.map Prod.fst) hA
      simp only [List.map_map] at this
      rw [show (pl.set i (b, rotF st x n now)).map Prod.fst = pl.map Prod.fst from this]
      exact h.nd
end Go.Proofs.Ytfeljihbaekfmaa.Rf
