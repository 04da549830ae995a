/-
  How the program's authorization codes lie in memory; New, made; look-ups.
-/
import Derived.Test.YtioabjniipkncaaGreatDoorRcP
import Derived.Test.YtioabjniipkncaaGreatDoorMapV
import Derived.Laws.Cover3
namespace Go.Proofs.YtioabjniipkncaaGreatDoor.Rc
open Go.RowKit Go.Proofs.YtioabjniipkncaaGreatDoor.Fo Go.Proofs.YtioabjniipkncaaGreatDoor.Rf Go.Maps

theorem strT : Tryz.prog.underlying 9 = some .string := Tryz.underlying9
theorem map1 : Tryz.prog.underlying 55 = some (.map 9 61) := Tryz.underlying55
theorem zeroP (w : World) : (zeroValue 61).run Tryz.prog w = .ok (.pointer none) w := by kernel_rfl
theorem mx_le {s : Bs} (h : s.size ≤ 100000) : s.size ≤ maxLen := by unfold maxLen; omega
theorem cell_block {w : World} {b : Nat} {cs : Array Value} {t : TypeId} {fr : Nat × Nat} (h : w.heap[b]? = some (.cells cs t fr)) (i : Nat) : w.cell? ⟨b, i, none⟩ = cs[i]? := by simp [World.cell?, h]
theorem ss_keep {w w' : World} {A : Option Addr} {n c : Nat} {l : List Bs} {S : Nat → Prop} (h : Ss w A n c l) (hA : ∀ a, A = some a → 0 < n → S a.block) (hk : ∀ k, S k → w'.heap[k]? = w.heap[k]?) (hz : w.heap.size ≤ w'.heap.size) : Ss w' A n c l := by
  refine ⟨h.1, h.2.1, fun hn => ?_⟩
  obtain ⟨b, off, rfl, hl, hc⟩ := h.2.2 hn
  refine ⟨b, off, rfl, Nat.lt_of_lt_of_le hl hz, fun i hi => ?_⟩
  rw [World.cell?_of_block (w := w) (hk b (hA _ rfl hn))]
  exact hc i hi
/-- A code in memory. -/
def CdP (w : World) (I : Nat → Prop) (b : Nat) (x : Cd) : Prop :=
  ∃ A c, w.heap[b]? = some (.cells #[.string x.g.user, .string x.g.client, .string x.g.tenant, .string x.g.session, .string x.g.redirect, .string x.g.nonce, .string x.g.challenge, .int .i64 x.g.method, (.slice A x.g.scopes.length c), .int .i64 x.g.auth, .int .i64 x.g.level, .int .i64 x.fin, .bool x.used, .bool x.att, .bool x.drp] 66 (0, 0)) ∧ Ss w A x.g.scopes.length c x.g.scopes ∧ ∀ a, A = some a → 0 < x.g.scopes.length → I a.block
/-- The program's record of codes in memory: its blocks are those of S; those of I are never written. -/
structure RepP (w : World) (S I : Nat → Prop) (F : Nat) (st : Ct) (M : Nat) (pl : List (Nat × Cd)) : Prop where
  hF : w.heap[F]? = some (.cells #[.int .i64 st.life, .map (some M)] 57 (0, 0))
  h1 : ∃ f1, MapV Tryz.prog 9 ptrR w M pl.length f1 ∧ ∀ x d, f1 x = some d ↔ ∃ p ∈ pl, p.2.w.data.toList = x ∧ d = .lit (.int .i64 (p.1 : Nat))
  hl : pl.map Prod.snd = st.l
  hb : ∀ p ∈ pl, CdP w I p.1 p.2
  sb : ∀ p ∈ pl, S p.1 ∧ ¬ I p.1
  sI : ∀ k, I k → S k
  nd : (pl.map Prod.fst).Nodup
  sF : S F ∧ ¬ I F
  s1 : S M ∧ ¬ I M
  lt : ∀ k, S k → k < w.heap.size
  inv : Inv st
theorem CdP.keep {w w' : World} {I I' : Nat → Prop} {b : Nat} {x : Cd} (h : CdP w I b x) (hs : ∀ k, I k → I' k) (hb : w'.heap[b]? = w.heap[b]?) (hk : ∀ k, I k → w'.heap[k]? = w.heap[k]?) (hz : w.heap.size ≤ w'.heap.size) : CdP w' I' b x := by
  obtain ⟨A, c, h1, h2, h3⟩ := h
  exact ⟨A, c, hb.trans h1, ss_keep h2 h3 hk hz, fun a ha hn => hs _ (h3 a ha hn)⟩
theorem RepP.keep {w w' : World} {S S' I : Nat → Prop} {F M : Nat} {st : Ct} {pl : List (Nat × Cd)} (h : RepP w S I F st M pl) (hs : ∀ k, S k → S' k) (hk : ∀ k, S k → w'.heap[k]? = w.heap[k]?) (hz : w.heap.size ≤ w'.heap.size) (hl : ∀ k, S' k → k < w'.heap.size) : RepP w' S' I F st M pl := by
  obtain ⟨f1, m1, v1⟩ := h.h1
  exact ⟨(hk _ h.sF.1).trans h.hF, ⟨f1, m1.frame (hk _ h.s1.1), v1⟩, h.hl, fun p hp => (h.hb p hp).keep (fun _ e => e) (hk _ (h.sb p hp).1) (fun k e => hk k (h.sI k e)) hz, fun p hp => ⟨hs _ (h.sb p hp).1, (h.sb p hp).2⟩, fun k e => hs k (h.sI k e), h.nd, ⟨hs _ h.sF.1, h.sF.2⟩, ⟨hs _ h.s1.1, h.s1.2⟩, hl, h.inv⟩
theorem RepP.below {w w' : World} {S I : Nat → Prop} {F M : Nat} {st : Ct} {pl : List (Nat × Cd)} (h : RepP w S I F st M pl) (hb : Below w.heap.size w w') : RepP w' S I F st M pl :=
  h.keep (fun _ e => e) (fun k e => hb.block k (h.lt k e)) hb.size (fun k e => Nat.lt_of_lt_of_le (h.lt k e) hb.size)
theorem RepP.grow {w w' : World} {S I : Nat → Prop} {F M : Nat} {st : Ct} {pl : List (Nat × Cd)} (h : RepP w S I F st M pl) (w0 : World) (hz : w.heap.size ≤ w'.heap.size) (hk : ∀ k, S k → w'.heap[k]? = w.heap[k]?) : RepP w' (grow S w0 w') I F st M pl :=
  h.keep (fun _ e => Or.inl e) hk hz (fun k e => by
    rcases e with e | e
    · exact Nat.lt_of_lt_of_le (h.lt k e) hz
    · exact e.2)
def RepE (w : World) (S : Nat → Prop) (F : Nat) (st : Ct) : Prop := ∃ I M pl, RepP w S I F st M pl
theorem RepE.below {w w' : World} {S : Nat → Prop} {F : Nat} {st : Ct} (h : RepE w S F st) (hb : Below w.heap.size w w') : RepE w' S F st := by
  obtain ⟨i, a, b, h⟩ := h
  exact ⟨i, a, b, h.below hb⟩
theorem RepE.keep {w w' : World} {S S' : Nat → Prop} {F : Nat} {st : Ct} (h : RepE w S F st) (hs : ∀ k, S k → S' k) (hk : ∀ k, S k → w'.heap[k]? = w.heap[k]?) (hz : w.heap.size ≤ w'.heap.size) (hl : ∀ k, S' k → k < w'.heap.size) : RepE w' S' F st := by
  obtain ⟨i, a, b, h⟩ := h
  exact ⟨i, a, b, h.keep hs hk hz hl⟩
theorem RepE.lt {w : World} {S : Nat → Prop} {F : Nat} {st : Ct} (h : RepE w S F st) : ∀ k, S k → k < w.heap.size := by
  obtain ⟨i, a, b, h⟩ := h
  exact h.lt
theorem RepE.inv {w : World} {S : Nat → Prop} {F : Nat} {st : Ct} (h : RepE w S F st) : Inv st := by
  obtain ⟨i, a, b, h⟩ := h
  exact h.inv
/-- code.limited. -/
theorem lim_any (n : Int) (w : World) : Calls Tryz.prog 23 #[.int .i64 n] w fun e w' => e = .returned (.int .i64 (limI n)) ∧ w = w' := by
  go_enter Tryz.func23, Tryz.ntmps23
  go_wp2
  go_ret
  exact ⟨ret_int (by unfold limI; omega), rfl⟩
/-- New's answer. -/
def NewIs (w : World) (l : Int) (e : Ending) (w' : World) : Prop :=
  if limI l = 0 then e = .returned (.tuple #[.pointer none, .int .i64 2]) ∧ w = w'
  else ∃ F, e = .returned (.tuple #[.pointer (some ⟨F, 0, none⟩), .int .i64 0]) ∧ RepE w' (Go.Proofs.YtioabjniipkncaaGreatDoor.grow (fun _ => False) w w') F ⟨limI l, []⟩ ∧ Below w.heap.size w w'
theorem rep_new (w : World) (a : Int) (h1 : 1 ≤ a) (h2 : a ≤ 1099511627776) :
    RepE ((w.alloc (.map #[] 0)).alloc (.cells #[.int .i64 a, .map (some w.heap.size)] 57)) (Go.Proofs.YtioabjniipkncaaGreatDoor.grow (fun _ => False) w ((w.alloc (.map #[] 0)).alloc (.cells #[.int .i64 a, .map (some w.heap.size)] 57))) (w.heap.size + 1) ⟨a, []⟩ := by
  have z1 : (w.alloc (.map #[] 0)).heap.size = w.heap.size + 1 := by simp
  refine ⟨fun _ => False, w.heap.size, [], ?_, ⟨fun _ => none, ?_, fun x d => ⟨(fun h => by cases h), (fun ⟨p, hp, _⟩ => by simp at hp)⟩⟩, rfl, (fun p hp => by simp at hp), (fun p hp => by simp at hp), (fun _ h => h.elim), List.Pairwise.nil, ⟨?_, fun h => h⟩, ⟨?_, fun h => h⟩, fun k hk => ?_, inv_nil h1 h2⟩
  · rw [← z1]; exact heap_alloc_new _ _
  · have := MapV.made w Tryz.prog 9 ptrR
    exact this.frame (w' := (w.alloc (.map #[] 0)).alloc _) (Below.heap_alloc _ _ _ (by rw [z1]; omega))
  · exact Or.inr ⟨by omega, by simp only [World.size_alloc]; omega⟩
  · exact Or.inr ⟨by omega, by simp only [World.size_alloc]; omega⟩
  · rcases hk with hk | hk
    · exact hk.elim
    · exact hk.2
theorem new_any (l : Int) (w : World) : Calls Tryz.prog 6 #[.int .i64 l] w (NewIs w l) := by
  have r1 := limI_range l
  have hl := lim_any l w
  unfold NewIs
  obtain ⟨a, ha⟩ : ∃ a, limI l = a := ⟨_, rfl⟩
  rw [ha] at r1 hl ⊢
  have HL := Lib.hid hl
  clear hl ha
  by_cases hx : a = 0
  · simp only [if_pos hx]
    have hxb : (a == 0) = true := by rw [hx]; rfl
    clear hx
    go_enter Tryz.func6, Tryz.ntmps6
    go_wp2_with fail
    refine HL.out.mono ?_
    rintro e w1 ⟨rfl, rfl⟩
    go_wp2
    go_ret2
    exact ⟨rfl, rfl⟩
  · simp only [if_neg hx]
    have hxb : (a == 0) = false := beq_eq_false_iff_ne.2 hx
    have HR := Lib.hid (rep_new w a (by omega) r1.2)
    clear hx
    have hmm := @run_makeMap Tryz.prog
    go_enter Tryz.func6, Tryz.ntmps6
    go_wp2_with fail
    refine HL.out.mono ?_
    rintro e w1 ⟨rfl, rfl⟩
    go_wp2
    go_ret2
    exact ⟨w.heap.size + 1, rfl, HR.out, by go_grown⟩
section
variable {w : World} {S I : Nat → Prop} {F M : Nat} {st : Ct} {pl : List (Nat × Cd)}
theorem RepP.c0 (h : RepP w S I F st M pl) : w.cell? ⟨F, 0, none⟩ = some (.int .i64 st.life) := cell_block h.hF 0
theorem RepP.c1 (h : RepP w S I F st M pl) : w.cell? ⟨F, 1, none⟩ = some (.map (some M)) := cell_block h.hF 1
theorem made_yes (h : RepP w S I F st M pl) : Calls Tryz.prog 33 #[.pointer (some ⟨F, 0, none⟩)] w fun e w' => e = .returned (.bool true) ∧ w = w' := by
  have c1 := h.c1
  clear h
  have hq : (binOp .neq 55 (.map (some M)) (.map none)).run Tryz.prog w = .ok (.bool true) w := run_neq_map_nil w _ _ _ _ map1
  go_enter Tryz.func33, Tryz.ntmps33
  go_wp2
  go_ret
  exact ⟨rfl, rfl⟩
theorem look_no (h : RepP w S I F st M pl) (i : Bs) (hi : i.size ≤ 100000) (hn : cdI st.l i = none) :
    (Instr.lookup 55 (.map (some M)) (.string i) false).run Tryz.prog w = .ok (.pointer none) w := by
  obtain ⟨f1, m1, v1⟩ := h.h1
  have hf : f1 i.data.toList = none := by
    cases hx : f1 i.data.toList with
    | none => rfl
    | some d =>
      obtain ⟨p, hp, e, _⟩ := (v1 _ _).1 hx
      exact absurd (bs_ext e) (cdI_none.1 hn p.2 (by rw [← h.hl]; exact List.mem_map.2 ⟨p, hp, rfl⟩))
  exact m1.look_no strT map1 (zeroP w) (mx_le hi) hf false
theorem look_yes (h : RepP w S I F st M pl) (p : Nat × Cd) (hp : p ∈ pl) :
    (Instr.lookup 55 (.map (some M)) (.string p.2.w) false).run Tryz.prog w = .ok (.pointer (some ⟨p.1, 0, none⟩)) w := by
  obtain ⟨f1, m1, v1⟩ := h.h1
  have hf : f1 p.2.w.data.toList = some (.lit (.int .i64 (p.1 : Nat))) := (v1 _ _).2 ⟨p, hp, rfl, rfl⟩
  have hz := h.inv.sz p.2 (by rw [← h.hl]; exact List.mem_map.2 ⟨p, hp, rfl⟩)
  obtain ⟨v, ps, hv, hr⟩ := m1.look_yes strT map1 (zeroP w) (mx_le (by omega)) hf false
  rw [ptrR_at hv] at hr
  exact hr
theorem look_at (h : RepP w S I F st M pl) {i b : Nat} {x : Cd} {t : Bs} (hb : pl[i]? = some (b, x)) (ht : x.w = t) :
    (Instr.lookup 55 (.map (some M)) (.string t) false).run Tryz.prog w = .ok (.pointer (some ⟨b, 0, none⟩)) w := by
  subst ht
  exact look_yes h (b, x) (List.mem_of_getElem? hb)
theorem len_run (h : RepP w S I F st M pl) (ty : TypeId) : (Builtin.len_ #[55] ty #[.map (some M)]).run Tryz.prog w = .ok (.int .i64 (st.l.length : Int)) w := by
  obtain ⟨f1, m1, v1⟩ := h.h1
  have := m1.len map1 ty
  rw [show pl.length = st.l.length by rw [← h.hl, List.length_map]] at this
  exact this
end
theorem pl_at {st : Ct} {pl : List (Nat × Cd)} (hl : pl.map Prod.snd = st.l) {i : Nat} {x : Cd} (h : st.l[i]? = some x) : ∃ b, pl[i]? = some (b, x) := by
  rw [← hl, List.getElem?_map] at h
  cases hp : pl[i]? with
  | none => rw [hp] at h; cases h
  | some p => rw [hp] at h; obtain ⟨b, y⟩ := p; injection h with h; subst h; exact ⟨b, rfl⟩
theorem len_any {w : World} {S : Nat → Prop} {F : Nat} {st : Ct} (h : RepE w S F st) :
    Calls Tryz.prog 11 #[.pointer (some ⟨F, 0, none⟩)] w fun e w' => e = .returned (.int .i64 (st.l.length : Nat)) ∧ w = w' := by
  obtain ⟨I, M, pl, h⟩ := h
  have c1 := h.c1
  have hr := len_run h
  have H := Lib.hid h
  clear h
  go_enter Tryz.func11, Tryz.ntmps11
  go_wp2_with (go_at_call 33; refine (made_yes H.out).mono ?_; rintro e w1 ⟨rfl, rfl⟩)
  go_ret
  exact ⟨rfl, rfl⟩
end Go.Proofs.YtioabjniipkncaaGreatDoor.Rc
