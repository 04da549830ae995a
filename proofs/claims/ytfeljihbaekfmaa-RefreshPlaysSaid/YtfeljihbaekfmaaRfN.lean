/-
  What the program's maps of families answer; Family, Live.
-/
import Derived.Test.YtfeljihbaekfmaaRfM
namespace Go.Proofs.Ytfeljihbaekfmaa.Rf
open Go.RowKit Go.Proofs.Ytfeljihbaekfmaa.Fo

theorem zeroP (w : World) : (zeroValue 73).run Try.prog w = .ok (.pointer none) w := by kernel_rfl
theorem zeroS (w : World) : (zeroValue 9).run Try.prog w = .ok (.string ⟨#[]⟩) w := by kernel_rfl
theorem mx_le {s : Bs} (h : s.size ≤ 100000) : s.size ≤ maxLen := by unfold maxLen; omega
theorem plain_str {v : Value} {l : List UInt8} {ps : List MemPlace} (h : plainElem (H := Unit) Try.prog 9 v = some (.lit (.string l), ps)) : v = .string ⟨l.toArray⟩ := by
  unfold plainElem at h
  rw [strT] at h
  cases v <;> simp at h
  obtain ⟨_, h2, _⟩ := h
  rw [← h2]
theorem bs_of (s : Bs) : (⟨s.data.toList.toArray⟩ : Bs) = s := by cases s; simp
section
variable {w : World} {S I : Nat → Prop} {F M1 M2 : Nat} {st : St} {pl : List (Nat × Fm)}
theorem look1_no (h : RepP w S I F st M1 M2 pl) (i : Bs) (hi : i.size ≤ 100000) (hn : ∀ p ∈ pl, p.2.id ≠ i) :
    (Instr.lookup 61 (.map (some M1)) (.string i) false).run Try.prog w = .ok (.pointer none) w := by
  obtain ⟨f1, m1, v1⟩ := h.h1
  have hf : f1 i.data.toList = none := by
    cases hx : f1 i.data.toList with
    | none => rfl
    | some d =>
      obtain ⟨p, hp, e, _⟩ := (v1 _ _).1 hx
      exact absurd (bs_ext e) (hn p hp)
  exact m1.look_no strT map1 (zeroP w) (mx_le hi) hf false
theorem look1_yes (h : RepP w S I F st M1 M2 pl) (p : Nat × Fm) (hp : p ∈ pl) :
    (Instr.lookup 61 (.map (some M1)) (.string p.2.id) false).run Try.prog w = .ok (.pointer (some ⟨p.1, 0, none⟩)) w := by
  obtain ⟨f1, m1, v1⟩ := h.h1
  have hf : f1 p.2.id.data.toList = some (.lit (.int .i64 (p.1 : Nat))) := (v1 _ _).2 ⟨p, hp, rfl, rfl⟩
  have hz := (h.inv.sz p.2 (by rw [← h.hl]; exact List.mem_map.2 ⟨p, hp, rfl⟩)).1
  obtain ⟨v, ps, hv, hr⟩ := m1.look_yes strT map1 (zeroP w) (mx_le (by omega)) hf false
  rw [ptrR_at hv] at hr
  exact hr
theorem look2_no (h : RepP w S I F st M1 M2 pl) (t : Bs) (ht : t.size ≤ 100000) (hn : ∀ m ∈ st.l, t ∉ m.toks) (ok : Bool) :
    (Instr.lookup 62 (.map (some M2)) (.string t) ok).run Try.prog w = .ok (if ok then .tuple #[.string ⟨#[]⟩, .bool false] else .string ⟨#[]⟩) w := by
  obtain ⟨f2, m2, v2⟩ := h.h2
  have hf : f2 t.data.toList = none := by
    cases hx : f2 t.data.toList with
    | none => rfl
    | some d =>
      obtain ⟨m, hm, ⟨s, hs, e⟩, _⟩ := (v2 _ _).1 hx
      rw [bs_ext e] at hs
      exact absurd hs (hn m hm)
  exact m2.look_no strT map2 (zeroS w) (mx_le ht) hf ok
theorem look2_yes (h : RepP w S I F st M1 M2 pl) (m : Fm) (hm : m ∈ st.l) (t : Bs) (ht : t ∈ m.toks) (ok : Bool) :
    (Instr.lookup 62 (.map (some M2)) (.string t) ok).run Try.prog w = .ok (if ok then .tuple #[.string m.id, .bool true] else .string m.id) w := by
  obtain ⟨f2, m2, v2⟩ := h.h2
  have hf : f2 t.data.toList = some (.lit (.string m.id.data.toList)) := (v2 _ _).2 ⟨m, hm, ⟨t, ht, rfl⟩, rfl⟩
  have hz := (h.inv.sz m hm).2 t ht
  obtain ⟨v, ps, hv, hr⟩ := m2.look_yes strT map2 (zeroS w) (mx_le (by omega)) hf ok
  rw [plain_str hv, bs_of] at hr
  exact hr
theorem RepP.c0 (h : RepP w S I F st M1 M2 pl) : w.cell? ⟨F, 0, none⟩ = some (.int .i64 st.life) := cell_block h.hF 0
theorem RepP.c1 (h : RepP w S I F st M1 M2 pl) : w.cell? ⟨F, 1, none⟩ = some (.int .i64 st.total) := cell_block h.hF 1
theorem RepP.c2 (h : RepP w S I F st M1 M2 pl) : w.cell? ⟨F, 2, none⟩ = some (.map (some M1)) := cell_block h.hF 2
theorem RepP.c3 (h : RepP w S I F st M1 M2 pl) : w.cell? ⟨F, 3, none⟩ = some (.map (some M2)) := cell_block h.hF 3
end

/-! ### What the plain look-ups mean -/
theorem tokI_none {l : List Fm} {t : Bs} : tokI l t = none ↔ ∀ m ∈ l, t ∉ m.toks := by
  unfold tokI
  rw [List.findIdx?_eq_none_iff]
  constructor
  · intro h m hm ht
    have := h m hm
    rw [memB_iff.2 ht] at this
    cases this
  · intro h m hm
    rw [Bool.eq_false_iff]
    exact fun e => h m hm (memB_iff.1 e)
theorem tokI_some {l : List Fm} {t : Bs} {i : Nat} (h : tokI l t = some i) : ∃ x, l[i]? = some x ∧ t ∈ x.toks := by
  unfold tokI at h
  obtain ⟨hi, hp, _⟩ := List.findIdx?_eq_some_iff_getElem.1 h
  exact ⟨l[i], List.getElem?_eq_getElem hi, memB_iff.1 hp⟩
theorem idI_none {l : List Fm} {i : Bs} : idI l i = none ↔ ∀ m ∈ l, m.id ≠ i := by
  unfold idI
  rw [List.findIdx?_eq_none_iff]
  exact ⟨fun h m hm e => by simpa [e] using h m hm, fun h m hm => by simpa using h m hm⟩
theorem idI_some {l : List Fm} {i : Bs} {k : Nat} (h : idI l i = some k) : ∃ x, l[k]? = some x ∧ x.id = i := by
  unfold idI at h
  obtain ⟨hi, hp, _⟩ := List.findIdx?_eq_some_iff_getElem.1 h
  exact ⟨l[k], List.getElem?_eq_getElem hi, of_decide_eq_true hp⟩
theorem pl_at {st : St} {pl : List (Nat × Fm)} (hl : pl.map Prod.snd = st.l) {i : Nat} {x : Fm} (h : st.l[i]? = some x) : ∃ b, pl[i]? = some (b, x) := by
  rw [← hl, List.getElem?_map] at h
  cases hp : pl[i]? with
  | none => rw [hp] at h; cases h
  | some p => rw [hp] at h; obtain ⟨b, y⟩ := p; injection h with h; subst h; exact ⟨b, rfl⟩

/-- Family's answer. -/
def FamIs (w : World) (o : Option Bs) (e : Ending) (w' : World) : Prop := e = .returned (.tuple #[.string (o.getD eB), .bool o.isSome]) ∧ w = w'
theorem family_any {w : World} {S : Nat → Prop} {F : Nat} {st : St} (h : RepE w S F st) (t : Bs) (ht : t.size ≤ 100000) :
    Calls Try.prog 15 #[.pointer (some ⟨F, 0, none⟩), .string t] w (FamIs w (famT st t)) := by
  obtain ⟨I, M1, M2, pl, h⟩ := h
  have H := Lib.hid h
  have c3 := h.c3
  clear h
  cases hk : tokI st.l t with
  | none =>
    have hr := look2_no H.out t ht (tokI_none.1 hk) true
    have HR := Lib.hid (show famT st t = none by unfold famT; rw [hk]; rfl)
    clear hk
    go_enter Try.func15, Try.ntmps15
    go_wp2_with (go_at_call 40; refine (made_yes H.out).mono ?_; rintro e w1 ⟨rfl, rfl⟩)
    go_ret2
    exact ⟨by rw [HR.out]; rfl, rfl⟩
  | some i =>
    obtain ⟨x, hx, htx⟩ := tokI_some hk
    have hr := look2_yes H.out x (List.mem_of_getElem? hx) t htx true
    have HR := Lib.hid (show famT st t = some x.id by unfold famT; rw [hk, Option.bind_some, hx]; rfl)
    clear hk hx htx
    go_enter Try.func15, Try.ntmps15
    go_wp2_with (go_at_call 40; refine (made_yes H.out).mono ?_; rintro e w1 ⟨rfl, rfl⟩)
    go_ret2
    exact ⟨by rw [HR.out]; rfl, rfl⟩

theorem add_q (t d : Int) (w : World) : Calls Try.prog 31 #[.int .i64 t, .int .i64 d] w fun e w' => e = .returned (.int .i64 (addC t d)) ∧ w' = w := (add_any t d w).mono fun _ _ ⟨h1, h2⟩ => ⟨h1, h2.symm⟩
theorem liveI_no {st : St} {i : Bs} {now : Int} (h : idI st.l i = none) : liveI st i now = false := by unfold liveI; rw [h]
theorem liveI_yes {st : St} {i : Bs} {now : Int} {k : Nat} {x : Fm} (h : idI st.l i = some k) (hx : st.l[k]? = some x) : liveI st i now = liveF x now := by unfold liveI; rw [h]; simp only [hx]
theorem FmP.cell {w : World} {I : Nat → Prop} {b : Nat} {x : Fm} (h : FmP w I b x) : w.cell? ⟨b, 15, none⟩ = some (.bool x.ended) ∧ w.cell? ⟨b, 12, none⟩ = some (.int .i64 x.untl) := by
  obtain ⟨A, c, h1, _⟩ := h
  exact ⟨cell_block h1 15, cell_block h1 12⟩
/-- Live, the family known by its place. -/
theorem live_at {w : World} {S I : Nat → Prop} {F M1 M2 : Nat} {st : St} {pl : List (Nat × Fm)} (h : RepP w S I F st M1 M2 pl) (p : Nat × Fm) (hp : p ∈ pl) (now : Int) :
    Calls Try.prog 20 #[.pointer (some ⟨F, 0, none⟩), .string p.2.id, .int .i64 now] w fun e w' => e = .returned (.bool (liveF p.2 now)) ∧ Below w.heap.size w w' := by
  have hr := look1_yes h p hp
  have c2 := h.c2
  obtain ⟨c15, c12⟩ := (h.hb p hp).cell
  have H := Lib.hid h
  clear h hp
  have HA := Lib.hid (addC_zero now)
  obtain ⟨b, x⟩ := p
  simp only at hr c15 c12 ⊢
  cases he : x.ended with
  | true =>
    have HR := Lib.hid (show liveF x now = false by unfold liveF; rw [he]; rfl)
    rw [he] at c15
    clear he
    go_enter Try.func20, Try.ntmps20
    go_wp2_with (go_at_call 40; refine (made_yes H.out).mono ?_; rintro e w1 ⟨rfl, rfl⟩)
    go_quiet ((go_at_call 31; exact Calls.quiet_of_same (add_q _ _ _)))
    go_wp2
    go_ret
    exact ⟨ret_bool HR.out.symm, below_drewN (Below.refl _ _) _⟩
  | false =>
    have HR := Lib.hid (show liveF x now = decide (limI now < x.untl) by unfold liveF; rw [he]; rfl)
    rw [he] at c15
    clear he
    go_enter Try.func20, Try.ntmps20
    go_wp2_with (go_at_call 40; refine (made_yes H.out).mono ?_; rintro e w1 ⟨rfl, rfl⟩)
    go_quiet ((go_at_call 31; exact Calls.quiet_of_same (add_q _ _ _)))
    go_wp2
    go_ret
    exact ⟨ret_bool (by rw [HR.out, HA.out]), below_drewN (Below.refl _ _) _⟩
theorem live_any {w : World} {S : Nat → Prop} {F : Nat} {st : St} (h : RepE w S F st) (i : Bs) (hi : i.size ≤ 100000) (now : Int) :
    Calls Try.prog 20 #[.pointer (some ⟨F, 0, none⟩), .string i, .int .i64 now] w fun e w' => e = .returned (.bool (liveI st i now)) ∧ Below w.heap.size w w' := by
  obtain ⟨I, M1, M2, pl, h⟩ := h
  cases hk : idI st.l i with
  | none =>
    have hr := look1_no h i hi (fun p hp => idI_none.1 hk p.2 (by rw [← h.hl]; exact List.mem_map.2 ⟨p, hp, rfl⟩))
    have c2 := h.c2
    have H := Lib.hid h
    have HR := Lib.hid (liveI_no (now := now) hk)
    clear h hk
    go_enter Try.func20, Try.ntmps20
    go_wp2_with (go_at_call 40; refine (made_yes H.out).mono ?_; rintro e w1 ⟨rfl, rfl⟩)
    go_ret
    exact ⟨ret_bool HR.out.symm, Below.refl _ _⟩
  | some k =>
    obtain ⟨x, hx, rfl⟩ := idI_some hk
    obtain ⟨b, hb⟩ := pl_at h.hl hx
    rw [liveI_yes hk hx]
    exact live_at h (b, x) (List.mem_of_getElem? hb) now
theorem live_nil (i : Bs) (now : Int) (w : World) : Calls Try.prog 20 #[.pointer none, .string i, .int .i64 now] w fun e w' => e = .returned (.bool false) ∧ w = w' := by
  go_enter Try.func20, Try.ntmps20
  go_wp2_with (go_at_call 40; refine (made_no _).mono ?_; rintro e w1 ⟨rfl, rfl⟩)
  go_ret
  exact ⟨rfl, rfl⟩
end Go.Proofs.Ytfeljihbaekfmaa.Rf
