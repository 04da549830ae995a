/-
  How the program's families of refresh tokens lie in memory; New, made.
-/
import Derived.Test.YtfeljihbaekfmaaRfD
import Derived.Test.YtfeljihbaekfmaaMapV
import Derived.Laws.Cover3
namespace Go.Proofs.Ytfeljihbaekfmaa.Rf
open Go.RowKit Go.Proofs.Ytfeljihbaekfmaa.Fo

theorem strT : Try.prog.underlying 9 = some .string := Try.underlying9
/-- The current token. -/
def cur (x : Fm) : Bs := x.toks.getLast?.getD eB
/-- A family in memory. -/
def FmP (w : World) (I : Nat → Prop) (b : Nat) (x : Fm) : Prop :=
  ∃ A c, w.heap[b]? = some (.cells #[.string x.g.user, .string x.g.client, .string x.g.tenant, .string x.g.session, .string x.g.redirect, .string x.g.nonce, .string x.g.challenge, .int .i64 x.g.method, (.slice A x.g.scopes.length c), .int .i64 x.g.auth, .int .i64 x.g.level, .int .i64 x.fin, .int .i64 x.untl, .int .i64 (x.toks.length : Nat), .string (cur x), .bool x.ended] 75 (0, 0)) ∧ Ss w A x.g.scopes.length c x.g.scopes ∧ ∀ a, A = some a → 0 < x.g.scopes.length → I a.block
def ntok (l : List Fm) : Nat := (l.map fun x => x.toks.length).sum
/-- What holds of every record of families. -/
structure Inv (st : St) : Prop where
  ids : (st.l.map Fm.id).Nodup
  tk : ∀ x ∈ st.l, ∀ y ∈ st.l, ∀ t, t ∈ x.toks → t ∈ y.toks → x.id = y.id
  nd : ∀ x ∈ st.l, x.toks.Nodup
  ne : ∀ x ∈ st.l, x.toks ≠ []
  len : st.l.length ≤ 256
  tl : ∀ x ∈ st.l, x.toks.length ≤ 256
  sz : ∀ x ∈ st.l, (0 < x.id.size ∧ x.id.size ≤ 64) ∧ ∀ t ∈ x.toks, t.size ≤ 64
  sc : ∀ x ∈ st.l, Short x.g.scopes ∧ x.g.scopes.length ≤ 16
  rg : ∀ x ∈ st.l, 0 ≤ x.fin ∧ x.fin ≤ 1099511627776 ∧ 0 ≤ x.untl ∧ x.untl ≤ 1099511627776
  lf : 1 ≤ st.life ∧ st.life ≤ 1099511627776 ∧ 1 ≤ st.total ∧ st.total ≤ 1099511627776
/-- The program's record of families in memory: its blocks are those of S; those of I are never written. -/
structure RepP (w : World) (S I : Nat → Prop) (F : Nat) (st : St) (M1 M2 : Nat) (pl : List (Nat × Fm)) : Prop where
  hF : w.heap[F]? = some (.cells #[.int .i64 st.life, .int .i64 st.total, .map (some M1), .map (some M2)] 64 (0, 0))
  h1 : ∃ f1, MapV Try.prog 9 ptrR w M1 pl.length f1 ∧ ∀ x d, f1 x = some d ↔ ∃ p ∈ pl, p.2.id.data.toList = x ∧ d = .lit (.int .i64 (p.1 : Nat))
  h2 : ∃ f2, MapV Try.prog 9 (plainElem Try.prog 9) w M2 (ntok st.l) f2 ∧ ∀ x d, f2 x = some d ↔ ∃ m ∈ st.l, (∃ t ∈ m.toks, t.data.toList = x) ∧ d = .lit (.string m.id.data.toList)
  hl : pl.map Prod.snd = st.l
  hb : ∀ p ∈ pl, FmP w I p.1 p.2
  sb : ∀ p ∈ pl, S p.1 ∧ ¬ I p.1
  sI : ∀ k, I k → S k
  nd : (pl.map Prod.fst).Nodup
  hm : M1 ≠ M2
  sF : S F ∧ ¬ I F
  s1 : S M1 ∧ ¬ I M1
  s2 : S M2 ∧ ¬ I M2
  lt : ∀ k, S k → k < w.heap.size
  inv : Inv st
theorem Ss.keep {w w' : World} {A : Option Addr} {n c : Nat} {l : List Bs} {S : Nat → Prop} (h : Ss w A n c l) (hA : ∀ a, A = some a → 0 < n → S a.block) (hk : ∀ k, S k → w'.heap[k]? = w.heap[k]?) (hz : w.heap.size ≤ w'.heap.size) : Ss w' A n c l := by
  refine ⟨h.1, h.2.1, fun hn => ?_⟩
  obtain ⟨b, off, rfl, hl, hc⟩ := h.2.2 hn
  refine ⟨b, off, rfl, Nat.lt_of_lt_of_le hl hz, fun i hi => ?_⟩
  rw [World.cell?_of_block (w := w) (hk b (hA _ rfl hn))]
  exact hc i hi
theorem FmP.keep {w w' : World} {I I' : Nat → Prop} {b : Nat} {x : Fm} (h : FmP w I b x) (hs : ∀ k, I k → I' k) (hb : w'.heap[b]? = w.heap[b]?) (hk : ∀ k, I k → w'.heap[k]? = w.heap[k]?) (hz : w.heap.size ≤ w'.heap.size) : FmP w' I' b x := by
  obtain ⟨A, c, h1, h2, h3⟩ := h
  exact ⟨A, c, hb.trans h1, h2.keep h3 hk hz, fun a ha hn => hs _ (h3 a ha hn)⟩
/-- The families stay while other memory turns. -/
theorem RepP.keep {w w' : World} {S S' I : Nat → Prop} {F M1 M2 : Nat} {st : St} {pl : List (Nat × Fm)} (h : RepP w S I F st M1 M2 pl) (hs : ∀ k, S k → S' k) (hk : ∀ k, S k → w'.heap[k]? = w.heap[k]?) (hz : w.heap.size ≤ w'.heap.size) (hl : ∀ k, S' k → k < w'.heap.size) : RepP w' S' I F st M1 M2 pl := by
  obtain ⟨f1, m1, v1⟩ := h.h1
  obtain ⟨f2, m2, v2⟩ := h.h2
  exact ⟨(hk _ h.sF.1).trans h.hF, ⟨f1, m1.frame (hk _ h.s1.1), v1⟩, ⟨f2, m2.frame (hk _ h.s2.1), v2⟩, h.hl, fun p hp => (h.hb p hp).keep (fun _ e => e) (hk _ (h.sb p hp).1) (fun k e => hk k (h.sI k e)) hz, fun p hp => ⟨hs _ (h.sb p hp).1, (h.sb p hp).2⟩, fun k e => hs k (h.sI k e), h.nd, h.hm, ⟨hs _ h.sF.1, h.sF.2⟩, ⟨hs _ h.s1.1, h.s1.2⟩, ⟨hs _ h.s2.1, h.s2.2⟩, hl, h.inv⟩
theorem RepP.below {w w' : World} {S I : Nat → Prop} {F M1 M2 : Nat} {st : St} {pl : List (Nat × Fm)} (h : RepP w S I F st M1 M2 pl) (hb : Below w.heap.size w w') : RepP w' S I F st M1 M2 pl :=
  h.keep (fun _ e => e) (fun k e => hb.block k (h.lt k e)) hb.size (fun k e => Nat.lt_of_lt_of_le (h.lt k e) hb.size)
theorem RepP.grow {w w' : World} {S I : Nat → Prop} {F M1 M2 : Nat} {st : St} {pl : List (Nat × Fm)} (h : RepP w S I F st M1 M2 pl) (w0 : World) (hz : w.heap.size ≤ w'.heap.size) (hk : ∀ k, S k → w'.heap[k]? = w.heap[k]?) : RepP w' (grow S w0 w') I F st M1 M2 pl :=
  h.keep (fun _ e => Or.inl e) hk hz (fun k e => by
    rcases e with e | e
    · exact Nat.lt_of_lt_of_le (h.lt k e) hz
    · exact e.2)
def RepE (w : World) (S : Nat → Prop) (F : Nat) (st : St) : Prop := ∃ I M1 M2 pl, RepP w S I F st M1 M2 pl
theorem RepE.below {w w' : World} {S : Nat → Prop} {F : Nat} {st : St} (h : RepE w S F st) (hb : Below w.heap.size w w') : RepE w' S F st := by
  obtain ⟨i, a, b, c, h⟩ := h
  exact ⟨i, a, b, c, h.below hb⟩
theorem RepE.keep {w w' : World} {S S' : Nat → Prop} {F : Nat} {st : St} (h : RepE w S F st) (hs : ∀ k, S k → S' k) (hk : ∀ k, S k → w'.heap[k]? = w.heap[k]?) (hz : w.heap.size ≤ w'.heap.size) (hl : ∀ k, S' k → k < w'.heap.size) : RepE w' S' F st := by
  obtain ⟨i, a, b, c, h⟩ := h
  exact ⟨i, a, b, c, h.keep hs hk hz hl⟩
theorem RepE.lt {w : World} {S : Nat → Prop} {F : Nat} {st : St} (h : RepE w S F st) : ∀ k, S k → k < w.heap.size := by
  obtain ⟨i, a, b, c, h⟩ := h
  exact h.lt
theorem RepE.inv {w : World} {S : Nat → Prop} {F : Nat} {st : St} (h : RepE w S F st) : Inv st := by
  obtain ⟨i, a, b, c, h⟩ := h
  exact h.inv
theorem inv_nil {a b : Int} (h1 : 1 ≤ a) (h2 : a ≤ 1099511627776) (h3 : 1 ≤ b) (h4 : b ≤ 1099511627776) : Inv ⟨a, b, []⟩ :=
  ⟨List.Pairwise.nil, (fun _ h => by simp at h), (fun _ h => by simp at h), (fun _ h => by simp at h), by simp, (fun _ h => by simp at h), (fun _ h => by simp at h), (fun _ h => by simp at h), (fun _ h => by simp at h), ⟨h1, h2, h3, h4⟩⟩

/-- New's answer. -/
def NewIs (w : World) (l t : Int) (e : Ending) (w' : World) : Prop :=
  if limI l < 1 ∨ limI t < 1 then e = .returned (.tuple #[.pointer none, .int .i64 2]) ∧ w = w'
  else ∃ F, e = .returned (.tuple #[.pointer (some ⟨F, 0, none⟩), .int .i64 0]) ∧ RepE w' (grow (fun _ => False) w w') F ⟨limI l, limI t, []⟩ ∧ Below w.heap.size w w'
theorem map1 : Try.prog.underlying 61 = some (.map 9 73) := Try.underlying61
theorem map2 : Try.prog.underlying 62 = some (.map 9 9) := Try.underlying62
theorem rep_new (w : World) (a b : Int) (h1 : 1 ≤ a) (h2 : a ≤ 1099511627776) (h3 : 1 ≤ b) (h4 : b ≤ 1099511627776) :
    RepE (((w.alloc (.map #[] 0)).alloc (.map #[] 0)).alloc (.cells #[.int .i64 a, .int .i64 b, .map (some w.heap.size), .map (some (w.heap.size + 1))] 64)) (Go.Proofs.Ytfeljihbaekfmaa.grow (fun _ => False) w (((w.alloc (.map #[] 0)).alloc (.map #[] 0)).alloc (.cells #[.int .i64 a, .int .i64 b, .map (some w.heap.size), .map (some (w.heap.size + 1))] 64))) (w.heap.size + 2) ⟨a, b, []⟩ := by
  have z1 : (w.alloc (.map #[] 0)).heap.size = w.heap.size + 1 := by simp
  have z2 : ((w.alloc (.map #[] 0)).alloc (.map #[] 0)).heap.size = w.heap.size + 2 := by simp
  refine ⟨fun _ => False, w.heap.size, w.heap.size + 1, [], ?_, ⟨fun _ => none, ?_, fun x d => ⟨(fun h => by cases h), (fun ⟨p, hp, _⟩ => by simp at hp)⟩⟩, ⟨fun _ => none, ?_, fun x d => ⟨(fun h => by cases h), (fun ⟨p, hp, _⟩ => by simp at hp)⟩⟩, rfl, (fun p hp => by simp at hp), (fun p hp => by simp at hp), (fun _ h => h.elim), List.Pairwise.nil, by omega, ⟨?_, fun h => h⟩, ⟨?_, fun h => h⟩, ⟨?_, fun h => h⟩, fun k hk => ?_, inv_nil h1 h2 h3 h4⟩
  · rw [← z2]; exact heap_alloc_new _ _
  · have := MapV.made w Try.prog 9 ptrR
    exact (this.frame (w' := (w.alloc (.map #[] 0)).alloc (.map #[] 0)) (Below.heap_alloc _ _ _ (by rw [z1]; omega))).frame (Below.heap_alloc _ _ _ (by rw [z2]; omega))
  · have := MapV.made (w.alloc (.map #[] 0)) Try.prog 9 (plainElem Try.prog 9)
    rw [z1] at this
    exact this.frame (Below.heap_alloc _ _ _ (by rw [z2]; omega))
  · exact Or.inr ⟨by omega, by simp only [World.size_alloc]; omega⟩
  · exact Or.inr ⟨by omega, by simp only [World.size_alloc]; omega⟩
  · exact Or.inr ⟨by omega, by simp only [World.size_alloc]; omega⟩
  · rcases hk with hk | hk
    · exact hk.elim
    · exact hk.2
theorem new_any (l t : Int) (w : World) : Calls Try.prog 11 #[.int .i64 l, .int .i64 t] w (NewIs w l t) := by
  have r1 := limI_range l
  have r2 := limI_range t
  obtain ⟨a, ha⟩ : ∃ a, limI l = a := ⟨_, rfl⟩
  obtain ⟨b, hb⟩ : ∃ b, limI t = b := ⟨_, rfl⟩
  have HA := Lib.hid ((addC_zero l).trans ha)
  have HB := Lib.hid ((addC_zero t).trans hb)
  rw [ha] at r1
  rw [hb] at r2
  by_cases hx : a < 1 ∨ b < 1
  · have HN := Lib.hid (show ∀ e w', e = Ending.returned (.tuple #[.pointer none, .int .i64 2]) → w = w' → NewIs w l t e w' from fun e w' h1 h2 => by unfold NewIs; rw [ha, hb, if_pos hx]; exact ⟨h1, h2⟩)
    clear ha hb
    by_cases h1 : a < 1
    · clear hx
      go_enter Try.func11, Try.ntmps11
      go_wp2_with fail
      refine (add_any l 0 w).mono ?_
      rintro e w1 ⟨rfl, rfl⟩
      rw [HA.out]
      go_wp2_with fail
      refine (add_any t 0 w).mono ?_
      rintro e w1 ⟨rfl, rfl⟩
      rw [HB.out]
      go_wp2
      go_ret2
      exact HN.out _ _ rfl rfl
    · have h2 : b < 1 := by omega
      clear hx
      go_enter Try.func11, Try.ntmps11
      go_wp2_with fail
      refine (add_any l 0 w).mono ?_
      rintro e w1 ⟨rfl, rfl⟩
      rw [HA.out]
      go_wp2_with fail
      refine (add_any t 0 w).mono ?_
      rintro e w1 ⟨rfl, rfl⟩
      rw [HB.out]
      go_wp2
      go_ret2
      exact HN.out _ _ rfl rfl
  · have h1 : ¬ a < 1 := by omega
    have h2 : ¬ b < 1 := by omega
    have HN := Lib.hid (show ∀ e w', (∃ F, e = Ending.returned (.tuple #[.pointer (some ⟨F, 0, none⟩), .int .i64 0]) ∧ RepE w' (grow (fun _ => False) w w') F ⟨a, b, []⟩ ∧ Below w.heap.size w w') → NewIs w l t e w' from fun e w' h => by unfold NewIs; rw [ha, hb, if_neg hx]; exact h)
    have HR := Lib.hid (rep_new w a b (by omega) r1.2 (by omega) r2.2)
    clear ha hb hx
    have hmm := @run_makeMap Try.prog
    go_enter Try.func11, Try.ntmps11
    go_wp2_with fail
    refine (add_any l 0 w).mono ?_
    rintro e w1 ⟨rfl, rfl⟩
    rw [HA.out]
    go_wp2_with fail
    refine (add_any t 0 w).mono ?_
    rintro e w1 ⟨rfl, rfl⟩
    rw [HB.out]
    go_wp2
    go_ret2
    exact HN.out _ _ ⟨w.heap.size + 2, rfl, HR.out, by go_grown⟩
theorem cell_block {w : World} {b : Nat} {cs : Array Value} {t : TypeId} {fr : Nat × Nat} (h : w.heap[b]? = some (.cells cs t fr)) (i : Nat) : w.cell? ⟨b, i, none⟩ = cs[i]? := by simp [World.cell?, h]
theorem made_yes {w : World} {S I : Nat → Prop} {F M1 M2 : Nat} {st : St} {pl : List (Nat × Fm)} (h : RepP w S I F st M1 M2 pl) : Calls Try.prog 40 #[.pointer (some ⟨F, 0, none⟩)] w fun e w' => e = .returned (.bool true) ∧ w = w' := by
  have c2 := cell_block h.hF 2
  have c2' : w.cell? ⟨F, 2, none⟩ = some (.map (some M1)) := c2
  clear c2
  clear h
  have hq : (binOp .neq 61 (.map (some M1)) (.map none)).run Try.prog w = .ok (.bool true) w := run_neq_map_nil w _ _ _ _ map1
  go_enter Try.func40, Try.ntmps40
  go_wp2
  go_ret
  exact ⟨rfl, rfl⟩
theorem made_no (w : World) : Calls Try.prog 40 #[.pointer none] w fun e w' => e = .returned (.bool false) ∧ w = w' := by
  go_enter Try.func40, Try.ntmps40
  go_wp2
  go_ret
  exact ⟨rfl, rfl⟩
end Go.Proofs.Ytfeljihbaekfmaa.Rf
