/-
  Plain laws of authorization codes. No program.
-/
import Derived.Test.YtioabjniipkncaaGreatDoorRcY
namespace Go.Proofs.YtioabjniipkncaaGreatDoor.Rc
open Go.RowKit Go.Proofs.YtioabjniipkncaaGreatDoor.Fo Go.Proofs.YtioabjniipkncaaGreatDoor.Rf Go.Maps

theorem uniq {st : Ct} (h : Inv st) {x y : Cd} (hx : x ∈ st.l) (hy : y ∈ st.l) (e : x.w = y.w) : x = y := by
  obtain ⟨i, hi⟩ := List.getElem?_of_mem hx
  obtain ⟨j, hj⟩ := List.getElem?_of_mem hy
  have e1 : (st.l.map Cd.w)[i]? = some x.w := by rw [List.getElem?_map, hi]; rfl
  have e2 : (st.l.map Cd.w)[j]? = some x.w := by rw [List.getElem?_map, hj, e]; rfl
  have := nodup_at h.ids e1 e2
  subst this
  rw [hi] at hj
  exact Option.some.inj hj
theorem cdI_mem {st : Ct} {w : Bs} {x : Cd} (hx : x ∈ st.l) (e : x.w = w) : ∃ i, cdI st.l w = some i := by
  cases hc : cdI st.l w with
  | none => exact absurd e (cdI_none.1 hc x hx)
  | some i => exact ⟨i, rfl⟩
theorem fnd_mem {st : Ct} (h : Inv st) {w : Bs} {x : Cd} (hx : x ∈ st.l) (e : x.w = w) : fndC st w = some x := by
  obtain ⟨i, hc⟩ := cdI_mem hx e
  obtain ⟨y, hy, e2⟩ := cdI_some hc
  rw [fnd_some hc hy, uniq h (List.mem_of_getElem? hy) hx (e2.trans e.symm)]
theorem used_mem {st : Ct} (h : Inv st) {w : Bs} {x : Cd} (hx : x ∈ st.l) (e : x.w = w) : usedS st w = x.used := by
  unfold usedS; rw [fnd_mem h hx e]
theorem att_mem {st : Ct} (h : Inv st) {w : Bs} {x : Cd} (hx : x ∈ st.l) (e : x.w = w) : attS st w = x.att := by
  unfold attS; rw [fnd_mem h hx e]
/-- What a code may become. -/
structure Cd.Le (x y : Cd) : Prop where
  w : y.w = x.w
  g : y.g = x.g
  fin : y.fin = x.fin
  used : x.used = true → y.used = true
  drp : x.drp = true → y.drp = true
theorem Cd.Le.refl (x : Cd) : Cd.Le x x := ⟨rfl, rfl, rfl, fun e => e, fun e => e⟩
theorem le_redX (x : Cd) (e : Int) : Cd.Le x (redX x e) := by
  unfold redX
  split
  · exact ⟨rfl, rfl, rfl, fun e => e, fun e => e⟩
  · split
    · exact ⟨rfl, rfl, rfl, fun _ => rfl, fun e => e⟩
    · exact Cd.Le.refl x
theorem le_drF (p : Cd → Bool) (x : Cd) : Cd.Le x (drF p x) := by
  unfold drF
  split
  · exact ⟨rfl, rfl, rfl, fun e => e, fun _ => rfl⟩
  · exact Cd.Le.refl x
def KeepC (st st' : Ct) : Prop := ∀ x ∈ st.l, ∃ y ∈ st'.l, Cd.Le x y
def BackC (st st' : Ct) : Prop := ∀ y ∈ st'.l, ∃ x ∈ st.l, Cd.Le x y
theorem KeepC.refl (st : Ct) : KeepC st st := fun x h => ⟨x, h, Cd.Le.refl x⟩
theorem BackC.refl (st : Ct) : BackC st st := fun x h => ⟨x, h, Cd.Le.refl x⟩
theorem keep_set {st : Ct} {i : Nat} {x y : Cd} (hx : st.l[i]? = some x) (h : Cd.Le x y) : KeepC st { st with l := st.l.set i y } := by
  intro z hz
  obtain ⟨j, hj⟩ := List.getElem?_of_mem hz
  by_cases e : i = j
  · subst e
    rw [hx] at hj
    injection hj with hj
    subst hj
    exact ⟨y, List.mem_set (List.getElem?_eq_some_iff.1 hx).1 y, h⟩
  · refine ⟨z, List.mem_of_getElem? (i := j) ?_, Cd.Le.refl z⟩
    rw [List.getElem?_set, if_neg e]
    exact hj
theorem back_set {st : Ct} {i : Nat} {x y : Cd} (hx : st.l[i]? = some x) (h : Cd.Le x y) : BackC st { st with l := st.l.set i y } := by
  intro z hz
  rcases mem_set hz with rfl | ⟨j, _, hj⟩
  · exact ⟨x, List.mem_of_getElem? hx, h⟩
  · exact ⟨z, List.mem_of_getElem? hj, Cd.Le.refl z⟩
theorem red_cases (st : Ct) (w c r : Bs) (pv : Gr → Bool) (now : Int) :
    (red st w c r pv now = (st, (noG, 6)) ∧ ∀ x ∈ st.l, x.w ≠ w) ∨ ∃ i x k, st.l[i]? = some x ∧ x.w = w ∧ redE x c r (pv x.g) now = k ∧ red st w c r pv now = ({ st with l := st.l.set i (redX x k) }, (if k = 0 then x.g else noG, k)) := by
  cases hc : cdI st.l w with
  | none => exact Or.inl ⟨red_none hc, cdI_none.1 hc⟩
  | some i =>
    obtain ⟨x, hx, e⟩ := cdI_some hc
    exact Or.inr ⟨i, x, _, hx, e, rfl, red_at hc hx rfl⟩
theorem keep_red (st : Ct) (w c r : Bs) (pv : Gr → Bool) (now : Int) : KeepC st (red st w c r pv now).1 := by
  rcases red_cases st w c r pv now with ⟨e, _⟩ | ⟨i, x, k, hx, _, _, e⟩
  · rw [e]; exact KeepC.refl st
  · rw [e]; exact keep_set hx (le_redX x k)
theorem back_red (st : Ct) (w c r : Bs) (pv : Gr → Bool) (now : Int) : BackC st (red st w c r pv now).1 := by
  rcases red_cases st w c r pv now with ⟨e, _⟩ | ⟨i, x, k, hx, _, _, e⟩
  · rw [e]; exact BackC.refl st
  · rw [e]; exact back_set hx (le_redX x k)
theorem keep_drop (p : Cd → Bool) (st : Ct) : KeepC st (drS p st) := fun x hx => ⟨drF p x, List.mem_map.2 ⟨x, hx, rfl⟩, le_drF p x⟩
theorem back_drop (p : Cd → Bool) (st : Ct) : BackC st (drS p st) := fun y hy => by
  obtain ⟨x, hx, rfl⟩ := List.mem_map.1 hy
  exact ⟨x, hx, le_drF p x⟩
theorem keep_iss (st : Ct) (w : Bs) (g : Gr) (now : Int) : KeepC st (iss st w g now).1 := by
  unfold iss
  split
  · exact fun x hx => ⟨x, List.mem_append_left _ hx, Cd.Le.refl x⟩
  · exact KeepC.refl st
theorem back_purge (st : Ct) (now : Int) : BackC st (puS st now) := fun y hy => ⟨y, (List.mem_filter.1 hy).1, Cd.Le.refl y⟩
theorem keep_do (st : Ct) (o : Opc) (h : o.kind ≠ 7) : KeepC st (doC st o).1 := by
  unfold doC
  split
  · exact keep_iss _ _ _ _
  · split
    · exact keep_red _ _ _ _ _ _
    · split
      · exact keep_red _ _ _ _ _ _
      · split
        · exact KeepC.refl st
        · split
          · exact keep_drop _ _
          · split
            · exact keep_drop _ _
            · exact KeepC.refl st
theorem back_do (st : Ct) (o : Opc) (h : o.kind ≠ 1) : BackC st (doC st o).1 := by
  unfold doC
  rw [if_neg h]
  split
  · exact back_red _ _ _ _ _ _
  · split
    · exact back_red _ _ _ _ _ _
    · split
      · exact BackC.refl st
      · split
        · exact back_drop _ _
        · split
          · exact back_drop _ _
          · split
            · exact back_purge _ _
            · exact BackC.refl st
theorem redE_zero {x : Cd} {c r : Bs} {pv : Bool} {now : Int} (h : redE x c r pv now = 0) : x.used = false ∧ x.drp = false ∧ ¬ x.fin ≤ limI now ∧ c = x.g.client ∧ r = x.g.redirect ∧ pv = true := by
  unfold redE at h
  split at h
  · cases h
  · next h1 =>
    split at h
    · cases h
    · next h2 =>
      split at h
      · cases h
      · next h3 =>
        split at h
        · cases h
        · next h4 =>
          split at h
          · cases h
          · next h5 =>
            split at h
            · cases h
            · next h6 => exact ⟨by simpa using h1, by simpa using h2, h3, by simpa using h4, by simpa using h5, by simpa using h6⟩
/-- A code was redeemed. -/
theorem red_ok {st : Ct} {w c r : Bs} {pv : Gr → Bool} {now : Int} (h : (red st w c r pv now).2.2 = 0) : ∃ x ∈ st.l, x.w = w ∧ (red st w c r pv now).2.1 = x.g ∧ x.used = false ∧ x.drp = false ∧ ¬ x.fin ≤ limI now ∧ c = x.g.client ∧ r = x.g.redirect ∧ pv x.g = true ∧ { x with used := true } ∈ (red st w c r pv now).1.l := by
  rcases red_cases st w c r pv now with ⟨e, _⟩ | ⟨i, x, k, hx, hw, hk, e⟩
  · rw [e] at h; cases h
  · rw [e] at h ⊢
    simp only at h
    subst h
    obtain ⟨h1, h2, h3, h4, h5, h6⟩ := redE_zero hk
    exact ⟨x, List.mem_of_getElem? hx, hw, by simp, h1, h2, h3, h4, h5, h6, List.mem_set (List.getElem?_eq_some_iff.1 hx).1 _⟩
theorem red_bad_g {st : Ct} {w c r : Bs} {pv : Gr → Bool} {now : Int} (h : (red st w c r pv now).2.2 ≠ 0) : (red st w c r pv now).2.1 = noG := by
  rcases red_cases st w c r pv now with ⟨e, _⟩ | ⟨i, x, k, hx, hw, hk, e⟩
  · rw [e]
  · rw [e] at h ⊢
    simp only at h ⊢
    rw [if_neg h]
theorem iss_ok {st : Ct} {w : Bs} {g : Gr} {now : Int} (h : (iss st w g now).2 = 0) : iss st w g now = ({ st with l := st.l ++ [newC st w g now] }, 0) ∧ issE st w g = 0 := by
  unfold iss at h ⊢
  split at h
  · next e => exact ⟨by rw [if_pos e], e⟩
  · next e => exact absurd h e
theorem iss_mem {st : Ct} {w : Bs} {g : Gr} {now : Int} (h : (iss st w g now).2 = 0) : newC st w g now ∈ (iss st w g now).1.l := by
  rw [(iss_ok h).1]; simp
theorem issE_zero {st : Ct} {w : Bs} {g : Gr} (h : issE st w g = 0) : (wrd w = true ∧ wrd g.user = true ∧ wrd g.client = true ∧ wrd g.tenant = true ∧ wrd g.session = true) ∧ cdI st.l w = none ∧ ckG g = 0 ∧ st.l.length < 256 := by
  unfold issE at h
  split at h
  · cases h
  · next h1 =>
    split at h
    · cases h
    · next h2 =>
      split at h
      · next h3 => exact absurd h h3
      · next h3 =>
        split at h
        · cases h
        · next h4 =>
          simp only [not_or, Bool.not_eq_false] at h1
          exact ⟨⟨h1.1, h1.2.1, h1.2.2.1, h1.2.2.2.1, h1.2.2.2.2⟩, by simpa using h2, by simpa using h3, by omega⟩
/-- Op 2 or 3. -/
def isRed (o : Opc) : Prop := o.kind = 2 ∨ o.kind = 3
theorem do_red {st : Ct} {o : Opc} (h : isRed o) : ∃ c r, doC st o = ((red st o.code c r (prv o.ver) o.now).1, ⟨(red st o.code c r (prv o.ver) o.now).2.1, 0, false, false, (red st o.code c r (prv o.ver) o.now).2.2⟩) := by
  rcases h with h | h
  · exact ⟨o.cl, o.rd, by unfold doC; rw [if_neg (by omega), if_pos h]⟩
  · exact ⟨o.g.client, o.g.redirect, by unfold doC; rw [if_neg (by omega), if_neg (by omega), if_pos h]⟩
/-- A code is kept with its grant, and was returned n times. -/
def Held (st : Ct) (w : Bs) (g : Gr) (n : Nat) : Prop := ∃ x ∈ st.l, x.w = w ∧ x.g = g ∧ n ≤ 1 ∧ (n = 1 → x.used = true)
theorem held_iss {st : Ct} {w : Bs} {g : Gr} {now : Int} (h : (iss st w g now).2 = 0) : Held (iss st w g now).1 w g 0 :=
  ⟨_, iss_mem h, rfl, rfl, by omega, by omega⟩
theorem held_do {st : Ct} {w : Bs} {g : Gr} {n : Nat} {o : Opc} (h7 : o.kind ≠ 7) (h : Held st w g n) : Held (doC st o).1 w g n := by
  obtain ⟨x, hx, h1, h2, h3, h4⟩ := h
  obtain ⟨y, hy, l⟩ := keep_do st o h7 x hx
  exact ⟨y, hy, l.w.trans h1, l.g.trans h2, h3, fun e => l.used (h4 e)⟩
theorem held_hit {st : Ct} {w : Bs} {g : Gr} {n : Nat} {o : Opc} (hi : Inv st) (hr : isRed o) (hw : o.code = w) (he : (doC st o).2.e = 0) (h : Held st w g n) : (doC st o).2.g = g ∧ n = 0 ∧ Held (doC st o).1 w g 1 := by
  obtain ⟨x, hx, h1, h2, h3, h4⟩ := h
  obtain ⟨c, r, e⟩ := do_red (st := st) hr
  rw [e] at he ⊢
  obtain ⟨y, hy, k1, k2, k3, _, _, _, _, _, k9⟩ := red_ok he
  have exy : y = x := uniq hi hy hx (by rw [k1, h1, hw])
  subst exy
  refine ⟨k2.trans h2, ?_, _, k9, h1, h2, Nat.le_refl _, fun _ => rfl⟩
  rcases Nat.lt_or_ge 0 n with hn | hn
  · have := h4 (by omega)
    rw [k3] at this
    cases this
  · omega
theorem held_end {st : Ct} {w : Bs} {g : Gr} {n : Nat} (hi : Inv st) (h : Held st w g n) : n ≤ 1 ∧ (n = 0 ∨ usedS st w = true) := by
  obtain ⟨x, hx, h1, h2, h3, h4⟩ := h
  refine ⟨h3, ?_⟩
  rw [used_mem hi hx h1]
  rcases Nat.lt_or_ge 0 n with hn | hn
  · exact Or.inr (h4 (by omega))
  · exact Or.inl (by omega)
/-- No code that a test selects can be redeemed. -/
def Gone (p : Cd → Bool) (st : Ct) : Prop := ∀ x ∈ st.l, p x = true → x.used = true ∨ x.drp = true
theorem gone_drop (p : Cd → Bool) (hp : ∀ x y : Cd, y.g = x.g → p y = p x) (st : Ct) : Gone p (drS p st) := by
  intro y hy hpy
  obtain ⟨x, hx, rfl⟩ := List.mem_map.1 hy
  rw [hp x _ (drF_same p x).2.1] at hpy
  unfold drF
  split
  · exact Or.inr rfl
  · next e =>
    rw [hpy] at e
    cases hu : x.used with
    | true => exact Or.inl rfl
    | false =>
      cases hd : x.drp with
      | true => exact Or.inr rfl
      | false => rw [hu, hd] at e; exact absurd rfl e
theorem gone_again {p : Cd → Bool} {st : Ct} (h : Gone p st) : drN p st = 0 := by
  unfold drN
  rw [List.countP_eq_zero]
  intro x hx
  cases hp : p x with
  | false => simp
  | true => rcases h x hx hp with e | e <;> simp [e]
theorem gone_back {p : Cd → Bool} (hp : ∀ x y : Cd, y.g = x.g → p y = p x) {st st' : Ct} (hb : BackC st st') (h : Gone p st) : Gone p st' := by
  intro y hy hpy
  obtain ⟨x, hx, l⟩ := hb y hy
  rw [hp x y l.g] at hpy
  rcases h x hx hpy with e | e
  · exact Or.inl (l.used e)
  · exact Or.inr (l.drp e)
theorem gone_hit {p : Cd → Bool} {st : Ct} {o : Opc} (hr : isRed o) (he : (doC st o).2.e = 0) (h : Gone p st) : ∃ x, p x = false ∧ (doC st o).2.g = x.g := by
  obtain ⟨c, r, e⟩ := do_red (st := st) hr
  rw [e] at he ⊢
  obtain ⟨y, hy, k1, k2, k3, k4, _⟩ := red_ok he
  refine ⟨y, ?_, k2⟩
  cases hp : p y with
  | false => rfl
  | true =>
    rcases h y hy hp with e | e
    · rw [k3] at e; cases e
    · rw [k4] at e; cases e
theorem isUsr_g (s : Bs) (x y : Cd) (h : y.g = x.g) : isUsr s y = isUsr s x := by unfold isUsr; rw [h]
theorem isSes_g (s : Bs) (x y : Cd) (h : y.g = x.g) : isSes s y = isSes s x := by unfold isSes; rw [h]
end Go.Proofs.YtioabjniipkncaaGreatDoor.Rc
