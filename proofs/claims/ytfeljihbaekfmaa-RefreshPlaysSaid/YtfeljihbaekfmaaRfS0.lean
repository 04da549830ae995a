/-
  A family more in memory.
-/
import Derived.Test.YtfeljihbaekfmaaRfR
namespace Go.Proofs.Ytfeljihbaekfmaa.Rf
open Go.RowKit Go.Proofs.Ytfeljihbaekfmaa.Fo Go.Maps

theorem chkS_len {l : List Bs} (h : chkS l = 0) : l.length ≤ 16 := by
  rcases Nat.lt_or_ge 16 l.length with h2 | h2
  · rw [chkS_long h2] at h; cases h
  · exact h2
theorem wrd_sz {s : Bs} (h : wrd s = true) : 0 < s.size ∧ s.size ≤ 64 := wrd_ne h
theorem inv_start {st : St} (h : Inv st) {i t : Bs} {g : Gr} {now : Int} (hi : wrd i = true) (ht : wrd t = true) (hc : chkS g.scopes = 0) (hsh : Short g.scopes) (h1 : tokI st.l t = none) (h2 : idI st.l i = none) (h3 : ¬ 256 ≤ st.l.length) : Inv { st with l := st.l ++ [newF st i t g now] } := by
  have n1 := tokI_none.1 h1
  have n2 := idI_none.1 h2
  have r1 := addC_range now st.life
  have r2 := addC_range now st.total
  refine ⟨?_, ?_, ?_, ?_, ?_, ?_, ?_, ?_, ?_, h.lf⟩
  · rw [List.map_append, List.nodup_append]
    refine ⟨h.ids, by simp, fun a ha b hb e => ?_⟩
    obtain ⟨x, hx, rfl⟩ := List.mem_map.1 ha
    simp [newF] at hb
    exact n2 x hx (e.trans hb)
  · intro x hx y hy s k1 k2
    rcases List.mem_append.1 hx with hx1 | hx1 <;> rcases List.mem_append.1 hy with hy1 | hy1
    · exact h.tk x hx1 y hy1 s k1 k2
    · simp at hy1; subst hy1
      simp [newF] at k2; subst k2
      exact absurd k1 (n1 x hx1)
    · simp at hx1; subst hx1
      simp [newF] at k1; subst k1
      exact absurd k2 (n1 y hy1)
    · simp at hx1 hy1; rw [hx1, hy1]
  · intro x hx
    rcases List.mem_append.1 hx with hx | hx
    · exact h.nd x hx
    · simp at hx; subst hx; simp [newF]
  · intro x hx
    rcases List.mem_append.1 hx with hx | hx
    · exact h.ne x hx
    · simp at hx; subst hx; simp [newF]
  · simp; omega
  · intro x hx
    rcases List.mem_append.1 hx with hx | hx
    · exact h.tl x hx
    · simp at hx; subst hx; simp [newF]
  · intro x hx
    rcases List.mem_append.1 hx with hx | hx
    · exact h.sz x hx
    · simp at hx; subst hx
      refine ⟨wrd_sz hi, fun s hs => ?_⟩
      simp [newF] at hs
      subst hs
      exact (wrd_sz ht).2
  · intro x hx
    rcases List.mem_append.1 hx with hx | hx
    · exact h.sc x hx
    · simp at hx; subst hx; exact ⟨hsh, chkS_len hc⟩
  · intro x hx
    rcases List.mem_append.1 hx with hx | hx
    · exact h.rg x hx
    · simp at hx; subst hx
      simp only [newF]
      omega
theorem ntok_append (l m : List Fm) : ntok (l ++ m) = ntok l + ntok m := by unfold ntok; rw [List.map_append, List.sum_append]
theorem ntok_le {l : List Fm} (h : ∀ x ∈ l, x.toks.length ≤ 256) : ntok l ≤ l.length * 256 := by
  induction l with
  | nil => simp [ntok]
  | cons x r ih =>
    have h1 := h x (by simp)
    have h2 := ih fun y hy => h y (by simp [hy])
    have e : ntok (x :: r) = x.toks.length + ntok r := by simp [ntok]
    rw [e, List.length_cons]
    omega
theorem Inv.ntok {st : St} (h : Inv st) : ntok st.l ≤ 65536 := by
  have := ntok_le h.tl
  have := h.len
  omega
/-- A family more in memory: the box is made, both maps are written. -/
theorem rep_start {w w2 : World} {S I : Nat → Prop} {F M1 M2 : Nat} {st : St} {pl : List (Nat × Fm)} (h : RepP w2 S I F st M1 M2 pl) (hw : Below w.heap.size w w2) (hS : ∀ k, S k → k < w.heap.size) {i t : Bs} {g : Gr} {now : Int} (B : Option Addr) (n d base : Nat) (hown : Own1 w2 base (.slice B n d) g.scopes) (hbase : w.heap.size ≤ base)
    (hi : wrd i = true) (ht : wrd t = true) (hc : chkS g.scopes = 0) (hsh : Short g.scopes) (h1 : tokI st.l t = none) (h2 : idI st.l i = none) (h3 : ¬ 256 ≤ st.l.length) :
    ∃ w4 w5, (Instr.mapUpdate 61 (.map (some M1)) (.string i) (.pointer (some ⟨w2.heap.size, 0, none⟩))).run Try.prog (w2.alloc (.cells #[.string g.user, .string g.client, .string g.tenant, .string g.session, .string g.redirect, .string g.nonce, .string g.challenge, .int .i64 g.method, (.slice B n d), .int .i64 g.auth, .int .i64 g.level, .int .i64 (addC now st.total), .int .i64 (min (addC now st.life) (addC now st.total)), .int .i64 1, .string t, .bool false] 75)).drew = .ok () w4 ∧
      (Instr.mapUpdate 62 (.map (some M2)) (.string t) (.string i)).run Try.prog w4 = .ok () w5 ∧ w4.cell? ⟨F, 3, none⟩ = some (.map (some M2)) ∧ (∀ k, k < w2.heap.size → k ≠ M1 → w4.heap[k]? = w2.heap[k]?) ∧ F ≠ M1 ∧ RepE w5 (grow S w w5) F { st with l := st.l ++ [newF st i t g now] } ∧ Mods S w w5 := by
  obtain ⟨w3, hw3⟩ : ∃ w3, w3 = (w2.alloc (.cells #[.string g.user, .string g.client, .string g.tenant, .string g.session, .string g.redirect, .string g.nonce, .string g.challenge, .int .i64 g.method, (.slice B n d), .int .i64 g.auth, .int .i64 g.level, .int .i64 (addC now st.total), .int .i64 (min (addC now st.life) (addC now st.total)), .int .i64 1, .string t, .bool false] 75)).drew := ⟨_, rfl⟩
  rw [← hw3]
  have hb3 : Below w2.heap.size w2 w3 := by rw [hw3]; exact ((Below.refl _ _).alloc (Nat.le_refl _) _).drew
  have hz3 : w3.heap.size = w2.heap.size + 1 := by rw [hw3]; simp
  have hnew : w3.heap[w2.heap.size]? = some (.cells #[.string g.user, .string g.client, .string g.tenant, .string g.session, .string g.redirect, .string g.nonce, .string g.challenge, .int .i64 g.method, (.slice B n d), .int .i64 g.auth, .int .i64 g.level, .int .i64 (addC now st.total), .int .i64 (min (addC now st.life) (addC now st.total)), .int .i64 1, .string t, .bool false] 75 (0, 0)) := by rw [hw3]; exact heap_alloc_new w2 _
  have hinv := h.inv
  have hi' := wrd_sz hi
  have ht' := wrd_sz ht
  obtain ⟨f1, m1, v1⟩ := h.h1
  obtain ⟨f2, m2, v2⟩ := h.h2
  have hM1 := h.lt _ h.s1.1
  have hM2 := h.lt _ h.s2.1
  have hF := h.lt _ h.sF.1
  have hpl : pl.length = st.l.length := by rw [← h.hl]; simp
  have m1' := m1.frame (hb3.block M1 hM1)
  obtain ⟨w4, hr1, m1'', ht4⟩ := m1'.store (v := .pointer (some ⟨w2.heap.size, 0, none⟩)) strT map1 (by unfold maxLen; omega) (mx_le (s := i) (by omega)) (ptrR_mk w2.heap.size)
  have g4 := ht4.grown
  have hk4 : ∀ k, k < w3.heap.size → k ≠ M1 → w4.heap[k]? = w3.heap[k]? := fun k hk hne => g4.block k hk fun e => hne (by injection e)
  have m2' : MapV Try.prog 9 (plainElem Try.prog 9) w4 M2 (ntok st.l) f2 := m2.frame ((hk4 M2 (by omega) (fun e => h.hm e.symm)).trans (hb3.block M2 hM2))
  have hnt := hinv.ntok
  obtain ⟨w5, hr2, m2'', ht5⟩ := m2'.store (v := .string i) strT map2 (by unfold maxLen; omega) (mx_le (s := t) (by omega)) (plainElem_string strT (mx_le (s := i) (by omega)))
  have g5 := ht5.grown
  have hz5 : w3.heap.size ≤ w5.heap.size := Nat.le_trans g4.size g5.size
  have hk5 : ∀ k, k < w3.heap.size → k ≠ M1 → k ≠ M2 → w5.heap[k]? = w3.heap[k]? := fun k hk hn1 hn2 => (g5.block k (Nat.lt_of_lt_of_le hk g4.size) fun e => hn2 (by injection e)).trans (hk4 k hk hn1)
  have hFM1 : F ≠ M1 := fun e => by
    obtain ⟨es, cl, hmm⟩ := m1.isMap
    rw [← e, h.hF] at hmm
    cases hmm
  have hFM2 : F ≠ M2 := fun e => by
    obtain ⟨es, cl, hmm⟩ := m2.isMap
    rw [← e, h.hF] at hmm
    cases hmm
  have hn1 : f1 i.data.toList = none := by
    cases hx : f1 i.data.toList with
    | none => rfl
    | some dd =>
      obtain ⟨p, hp, e, _⟩ := (v1 _ _).1 hx
      exact absurd (bs_ext e) (idI_none.1 h2 p.2 (snd_mem h.hl hp))
  have hn2 : f2 t.data.toList = none := by
    cases hx : f2 t.data.toList with
    | none => rfl
    | some dd =>
      obtain ⟨m, hm, ⟨s, hs, e⟩, _⟩ := (v2 _ _).1 hx
      rw [bs_ext e] at hs
      exact absurd hs (tokI_none.1 h1 m hm)
  rw [hn1] at m1''
  rw [hn2] at m2''
  have hmods : Mods S w w5 := ((((Mods.of_below S hw).trans (Mods.of_below _ hb3)).turned ht4 (Or.inl h.s1.1)).turned ht5 (Or.inl h.s2.1))
  refine ⟨w4, w5, hr1, hr2, ?_, fun k hk hne => (hk4 k (by omega) hne).trans (hb3.block k hk), hFM1, ⟨fun k => I k ∨ (k < w3.heap.size ∧ base ≤ k ∧ k ≠ w2.heap.size), M1, M2, pl ++ [(w2.heap.size, newF st i t g now)], ?_⟩, hmods⟩
  · rw [World.cell?_of_block (w := w3) (hk4 F (by omega) hFM1), World.cell?_of_block (w := w2) (hb3.block F hF)]
    exact h.c3
  have hss := hown.ss
  have hbk : ∀ a, B = some a → 0 < n → a.block < w2.heap.size ∧ base ≤ a.block := by
    rintro a rfl hn
    rcases hown.2 with ⟨hv, _⟩ | ⟨gg, cap, cur, hv, hg, hh, _⟩
    · cases hv
    · injection hv with e1 e2 e3
      injection e1 with e1
      subst e1
      exact ⟨(Array.getElem?_eq_some_iff.1 hh).1, hg⟩
  refine ⟨?_, ⟨_, (by rw [List.length_append]; exact m1''.frame (g5.block M1 (by have := g4.size; omega) (fun e => h.hm (by injection e))) : MapV _ _ _ w5 M1 _ _), fun x dd => ?_⟩, ⟨_, (by rw [show ntok (st.l ++ [newF st i t g now]) = ntok st.l + 1 by rw [ntok_append]; rfl]; exact m2''), fun x dd => ?_⟩, by rw [List.map_append, h.hl]; rfl, fun p hp => ?_, fun p hp => ?_, fun k hk => ?_, ?_, h.hm, ⟨Or.inl h.sF.1, fun e => ?_⟩, ⟨Or.inl h.s1.1, fun e => ?_⟩, ⟨Or.inl h.s2.1, fun e => ?_⟩, fun k hk => ?_, inv_start hinv hi ht hc hsh h1 h2 h3⟩
  · exact ((hk5 F (by omega) hFM1 hFM2).trans (hb3.block F hF)).trans h.hF
  · by_cases e : x = i.data.toList
    · subst e
      simp only [if_true]
      constructor
      · rintro hh
        injection hh with hh
        exact ⟨(w2.heap.size, newF st i t g now), List.mem_append.2 (Or.inr (by simp)), rfl, hh.symm⟩
      · rintro ⟨p, hp, e1, e2⟩
        rcases List.mem_append.1 hp with hp | hp
        · exact absurd (bs_ext e1) (idI_none.1 h2 p.2 (snd_mem h.hl hp))
        · simp at hp; subst hp; rw [e2]
    · simp only [if_neg e]
      rw [v1]
      constructor
      · rintro ⟨p, hp, e1, e2⟩
        exact ⟨p, List.mem_append.2 (Or.inl hp), e1, e2⟩
      · rintro ⟨p, hp, e1, e2⟩
        rcases List.mem_append.1 hp with hp | hp
        · exact ⟨p, hp, e1, e2⟩
        · simp at hp; subst hp; exact absurd e1.symm e
  · by_cases e : x = t.data.toList
    · subst e
      simp only [if_true]
      constructor
      · rintro hh
        injection hh with hh
        exact ⟨newF st i t g now, List.mem_append.2 (Or.inr (by simp)), ⟨t, by simp [newF], rfl⟩, hh.symm⟩
      · rintro ⟨m, hm, ⟨s, hs, e1⟩, e2⟩
        rcases List.mem_append.1 hm with hm | hm
        · rw [bs_ext e1] at hs
          exact absurd hs (tokI_none.1 h1 m hm)
        · simp at hm; subst hm; rw [e2]; rfl
    · simp only [if_neg e]
      rw [v2]
      constructor
      · rintro ⟨m, hm, e1, e2⟩
        exact ⟨m, List.mem_append.2 (Or.inl hm), e1, e2⟩
      · rintro ⟨m, hm, ⟨s, hs, e1⟩, e2⟩
        rcases List.mem_append.1 hm with hm | hm
        · exact ⟨m, hm, ⟨s, hs, e1⟩, e2⟩
        · simp at hm; subst hm
          simp [newF] at hs; subst hs
          exact absurd e1.symm e
  · rcases List.mem_append.1 hp with hp | hp
    · obtain ⟨s0, i0⟩ := h.sb p hp
      have hp1 := h.lt _ s0
      obtain ⟨A', c', hcell, _⟩ := h.hb p hp
      have ne1 : p.1 ≠ M1 := fun e => by
        obtain ⟨es, cl, hmm⟩ := m1.isMap
        rw [← e, hcell] at hmm
        cases hmm
      have ne2 : p.1 ≠ M2 := fun e => by
        obtain ⟨es, cl, hmm⟩ := m2.isMap
        rw [← e, hcell] at hmm
        cases hmm
      refine (h.hb p hp).keep (fun k e => Or.inl e) ((hk5 p.1 (by omega) ne1 ne2).trans (hb3.block _ hp1)) (fun k hk => ?_) (by omega)
      have hkl := h.lt k (h.sI k hk)
      exact (hk5 k (by omega) (fun e => h.s1.2 (by rw [← e]; exact hk)) (fun e => h.s2.2 (by rw [← e]; exact hk))).trans (hb3.block _ hkl)
    · simp at hp; subst hp
      have hM1' := hS _ h.s1.1
      have hM2' := hS _ h.s2.1
      have hwz := hw.size
      refine ⟨B, d, ?_, ?_, fun a ha hn => Or.inr ?_⟩
      · have hln : n = g.scopes.length := hss.2
        have := (hk5 w2.heap.size (by omega) (by omega) (by omega)).trans hnew
        rw [hln] at this
        exact this
      · have hln : n = g.scopes.length := hss.2
        have hs2 := hss.1
        rw [hln] at hs2
        refine Ss.keep (S := fun k => base ≤ k ∧ k < w2.heap.size) hs2 (fun a ha hn => ?_) (fun k hk => ?_) (by omega)
        · have hn' : 0 < g.scopes.length := hn
          have := hbk a ha (by omega)
          exact ⟨this.2, this.1⟩
        · exact (hk5 k (by omega) (by omega) (by omega)).trans (hb3.block _ hk.2)
      · have hn' : 0 < g.scopes.length := hn
        have := hbk a ha (by have := hss.2; omega)
        exact ⟨by omega, this.2, by omega⟩
  · have hwz := hw.size
    rcases List.mem_append.1 hp with hp | hp
    · obtain ⟨s0, i0⟩ := h.sb p hp
      have := hS _ s0
      exact ⟨Or.inl s0, fun e => by rcases e with e | e; exact i0 e; omega⟩
    · simp at hp; subst hp
      refine ⟨Or.inr ⟨by omega, by omega⟩, fun e => ?_⟩
      rcases e with e | e
      · have := h.lt _ (h.sI _ e); omega
      · exact e.2.2 rfl
  · rcases hk with hk | hk
    · exact Or.inl (h.sI k hk)
    · exact Or.inr ⟨by omega, by omega⟩
  · rw [List.map_append, List.nodup_append]
    refine ⟨h.nd, by simp, fun a ha b hb e => ?_⟩
    obtain ⟨x, hx, rfl⟩ := List.mem_map.1 ha
    simp at hb
    have := h.lt _ (h.sb x hx).1
    omega
  · rcases e with e | e
    · exact h.sF.2 e
    · have := hS _ h.sF.1; omega
  · rcases e with e | e
    · exact h.s1.2 e
    · have := hS _ h.s1.1; omega
  · rcases e with e | e
    · exact h.s2.2 e
    · have := hS _ h.s2.1; omega
  · rcases hk with hk | hk
    · have := h.lt k hk; omega
    · exact hk.2
end Go.Proofs.Ytfeljihbaekfmaa.Rf
