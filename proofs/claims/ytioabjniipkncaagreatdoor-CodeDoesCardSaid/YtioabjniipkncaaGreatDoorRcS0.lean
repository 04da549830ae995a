/-
  A code is issued in memory.
-/
import Derived.Test.YtioabjniipkncaaGreatDoorRcF
namespace Go.Proofs.YtioabjniipkncaaGreatDoor.Rc
open Go.RowKit Go.Proofs.YtioabjniipkncaaGreatDoor.Fo Go.Proofs.YtioabjniipkncaaGreatDoor.Rf Go.Maps

theorem chkS_len {l : List Bs} (h : chkS l = 0) : l.length ≤ 16 := by
  rcases Nat.lt_or_ge 16 l.length with h2 | h2
  · rw [chkS_long h2] at h; cases h
  · exact h2
theorem ckG_sc {g : Gr} (h : ckG g = 0) : chkS g.scopes = 0 := by
  unfold ckG at h
  split at h
  · cases h
  · split at h
    · exact h
    · next h2 => exact Classical.not_not.1 h2
theorem ckG_fr {g : Gr} (h : ckG g = 0) : frmG g = true := by
  unfold ckG at h
  split at h
  · cases h
  · next h2 => simpa using h2
theorem inv_iss {st : Ct} (h : Inv st) {t : Bs} {g : Gr} {now : Int} (ht : wrd t = true) (hc : ckG g = 0) (hsh : Short g.scopes) (h1 : cdI st.l t = none) (h3 : ¬ 256 ≤ st.l.length) : Inv { st with l := st.l ++ [newC st t g now] } := by
  have n1 := cdI_none.1 h1
  have r1 := addC_range now st.life
  refine ⟨?_, ?_, fun x hx => ?_, fun x hx => ?_, fun x hx => ?_, fun x hx => ?_, h.lf⟩
  · rw [List.map_append, List.nodup_append]
    refine ⟨h.ids, by simp, fun a ha b hb e => ?_⟩
    obtain ⟨x, hx, rfl⟩ := List.mem_map.1 ha
    simp [newC] at hb
    exact n1 x hx (e.trans hb)
  · simp only [List.length_append, List.length_cons, List.length_nil]
    omega
  · rcases List.mem_append.1 hx with hx | hx
    · exact h.sz x hx
    · simp at hx; subst hx; exact (wrd_ne ht).2
  · rcases List.mem_append.1 hx with hx | hx
    · exact h.sc x hx
    · simp at hx; subst hx; exact ⟨hsh, chkS_len (ckG_sc hc)⟩
  · rcases List.mem_append.1 hx with hx | hx
    · exact h.rg x hx
    · simp at hx; subst hx; exact r1
  · rcases List.mem_append.1 hx with hx | hx
    · exact h.fr x hx
    · simp at hx; subst hx; exact ckG_fr hc
theorem own_ge {w : World} {base : Nat} {A : Option Addr} {n c : Nat} {l : List Bs} (h : Own1 w base (.slice A n c) l) (a : Addr) (ha : A = some a) : base ≤ a.block := by
  rcases h.2 with ⟨hv, _⟩ | ⟨g, cap, cur, hv, hg, _⟩
  · injection hv with e1; rw [e1] at ha; cases ha
  · injection hv with e1; rw [e1] at ha; injection ha with ha; subst ha; exact hg
theorem rep_iss {w w2 w3 : World} {S I : Nat → Prop} {F M base d : Nat} {st : Ct} {pl : List (Nat × Cd)} {cd : Cd} {B : Option Addr} (h : RepP w2 S I F st M pl) (hw : Below w.heap.size w w2) (hS : ∀ k, S k → k < w.heap.size) (hinv : Inv { st with l := st.l ++ [cd] }) (hno : cdI st.l cd.w = none)
    (hown : Own1 w2 base (.slice B cd.g.scopes.length d) cd.g.scopes) (hbase : w.heap.size ≤ base) (hb3 : Below w2.heap.size w2 w3) (hnew : w3.heap[w2.heap.size]? = some (.cells #[.string cd.g.user, .string cd.g.client, .string cd.g.tenant, .string cd.g.session, .string cd.g.redirect, .string cd.g.nonce, .string cd.g.challenge, .int .i64 cd.g.method, (.slice B cd.g.scopes.length d), .int .i64 cd.g.auth, .int .i64 cd.g.level, .int .i64 cd.fin, .bool cd.used, .bool cd.att, .bool cd.drp] 66 (0, 0))) :
    ∃ w4, (Instr.mapUpdate 55 (.map (some M)) (.string cd.w) (.pointer (some ⟨w2.heap.size, 0, none⟩))).run Tryz.prog w3 = .ok () w4 ∧ RepE w4 (Go.Proofs.YtioabjniipkncaaGreatDoor.grow S w w4) F { st with l := st.l ++ [cd] } ∧ Mods S w w4 ∧ F ≠ M ∧ ∀ k, k < w2.heap.size → k ≠ M → w4.heap[k]? = w2.heap[k]? := by
  obtain ⟨f1, m1, v1⟩ := h.h1
  have hM := h.lt _ h.s1.1
  have hF := h.lt _ h.sF.1
  have hlen : pl.length ≤ 256 := by
    have := hinv.len
    simp only [List.length_append, List.length_cons, List.length_nil] at this
    rw [show pl.length = st.l.length by rw [← h.hl, List.length_map]]
    omega
  have hsz := hinv.sz cd (List.mem_append.2 (Or.inr (by simp)))
  have m1' : MapV Tryz.prog 9 ptrR w3 M pl.length f1 := m1.frame (hb3.block M hM)
  obtain ⟨w4, hr1, m1'', ht4⟩ := m1'.store (v := .pointer (some ⟨w2.heap.size, 0, none⟩)) strT map1 (by unfold maxLen; omega) (mx_le (s := cd.w) (by omega)) (ptrR_mk w2.heap.size)
  have g4 := ht4.grown
  have hk4 : ∀ k, k < w3.heap.size → k ≠ M → w4.heap[k]? = w3.heap[k]? := fun k hk hne => g4.block k hk fun e => hne (by injection e)
  have hz3 := hb3.size
  have hz4 := g4.size
  have hwz := hw.size
  have hn3 := blk_lt hnew
  have hk : ∀ k, k < w2.heap.size → k ≠ M → w4.heap[k]? = w2.heap[k]? := fun k hk hne => (hk4 k (by omega) hne).trans (hb3.block k hk)
  have hFM : F ≠ M := fun e => by
    obtain ⟨es, cl, hmm⟩ := m1.isMap
    rw [← e, h.hF] at hmm
    cases hmm
  have hn1 : f1 cd.w.data.toList = none := by
    cases hx : f1 cd.w.data.toList with
    | none => rfl
    | some dd =>
      obtain ⟨p, hp, e, _⟩ := (v1 _ _).1 hx
      exact absurd (bs_ext e) (cdI_none.1 hno p.2 (snd_mem h.hl hp))
  rw [hn1] at m1''
  have hmods : Mods S w w4 := ((Mods.of_below S hw).trans (Mods.of_below _ hb3)).turned ht4 (Or.inl h.s1.1)
  have hss := hown.ss.1
  have hbk : ∀ a, B = some a → 0 < cd.g.scopes.length → a.block < w2.heap.size ∧ base ≤ a.block := fun a ha hn => by
    have h1 := own_ge hown a ha
    obtain ⟨b, off, e2, hbl, _⟩ := hss.2.2 hn
    rw [ha] at e2
    injection e2 with e2
    rw [e2] at h1 ⊢
    exact ⟨hbl, h1⟩
  have hM1 := hS _ h.s1.1
  have hF1 := hS _ h.sF.1
  refine ⟨w4, hr1, ⟨fun k => I k ∨ (k < w2.heap.size ∧ base ≤ k), M, pl ++ [(w2.heap.size, cd)], (hk F hF hFM).trans h.hF, ⟨_, (by rw [List.length_append]; exact m1''), fun x dd => ?_⟩, by rw [List.map_append, h.hl]; rfl, fun p hp => ?_, fun p hp => ?_, fun k hk => ?_, ?_, ⟨Or.inl h.sF.1, fun e => ?_⟩, ⟨Or.inl h.s1.1, fun e => ?_⟩, fun k hk => ?_, hinv⟩, hmods, hFM, hk⟩
  · by_cases e : x = cd.w.data.toList
    · subst e
      simp only [if_true]
      constructor
      · rintro hh
        injection hh with hh
        exact ⟨(w2.heap.size, cd), List.mem_append.2 (Or.inr (by simp)), rfl, hh.symm⟩
      · rintro ⟨p, hp, e1, e2⟩
        rcases List.mem_append.1 hp with hp | hp
        · exact absurd (bs_ext e1) (cdI_none.1 hno p.2 (snd_mem h.hl hp))
        · simp at hp; subst hp; rw [e2]
    · simp only [if_neg e]
      rw [v1]
      constructor
      · rintro ⟨p, hp, e1, e2⟩
        exact ⟨p, List.mem_append.2 (Or.inl hp), e1, e2⟩
      · rintro ⟨p, hp, e1, e2⟩
        rcases List.mem_append.1 hp with hp | hp
        · exact ⟨p, hp, e1, e2⟩
        · simp at hp; subst hp; exact absurd e1.symm e
  · rcases List.mem_append.1 hp with hp | hp
    · exact (h.hb p hp).keep (fun k e => Or.inl e) (hk p.1 (h.lt _ (h.sb p hp).1) (h.apart hp).1.symm) (fun k hk2 => hk k (h.lt k (h.sI k hk2)) (fun e => h.s1.2 (by rw [← e]; exact hk2))) (by omega)
    · simp at hp; subst hp
      refine ⟨B, d, (hk4 _ hn3 (by omega)).trans hnew, ss_keep (S := fun k => base ≤ k ∧ k < w2.heap.size) hss (fun a ha hn => ⟨(hbk a ha hn).2, (hbk a ha hn).1⟩) (fun k hk2 => hk k hk2.2 (by omega)) (by omega), fun a ha hn => Or.inr (hbk a ha hn)⟩
  · rcases List.mem_append.1 hp with hp | hp
    · obtain ⟨s0, i0⟩ := h.sb p hp
      have := hS _ s0
      exact ⟨Or.inl s0, fun e => by rcases e with e | e; exact i0 e; omega⟩
    · simp at hp; subst hp
      refine ⟨Or.inr ⟨by omega, by omega⟩, fun e => ?_⟩
      rcases e with e | e
      · have := h.lt _ (h.sI _ e); omega
      · simp only at e; omega
  · rcases hk with hk | hk
    · exact Or.inl (h.sI k hk)
    · exact Or.inr ⟨by omega, by omega⟩
  · rw [List.map_append, List.nodup_append]
    refine ⟨h.nd, by simp, fun a ha b hb e => ?_⟩
    obtain ⟨x, hx, rfl⟩ := List.mem_map.1 ha
    simp at hb
    have := h.lt _ (h.sb x hx).1
    omega
  · rcases e with e | e
    · exact h.sF.2 e
    · omega
  · rcases e with e | e
    · exact h.s1.2 e
    · omega
  · rcases hk with hk | hk
    · have := h.lt k hk; omega
    · exact hk.2
end Go.Proofs.YtioabjniipkncaaGreatDoor.Rc
