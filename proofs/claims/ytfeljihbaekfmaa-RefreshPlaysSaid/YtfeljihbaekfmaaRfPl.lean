/-
  What calls leave behind: plain laws of layer 41. No program.
-/
import Derived.Test.YtfeljihbaekfmaaRfOp
namespace Go.Proofs.Ytfeljihbaekfmaa.Rf
open Go.RowKit Go.Proofs.Ytfeljihbaekfmaa.Fo

/-- What a family may become. -/
structure Fm.Le (x y : Fm) : Prop where
  id : y.id = x.id
  g : y.g = x.g
  fin : y.fin = x.fin
  toks : ∃ r, y.toks = x.toks ++ r
  ended : x.ended = true → y.ended = true
  un : x.untl ≤ x.fin → y.untl ≤ y.fin
theorem Fm.Le.refl (x : Fm) : Fm.Le x x := ⟨rfl, rfl, rfl, ⟨[], by simp⟩, fun e => e, fun e => e⟩
theorem Fm.Le.trans {x y z : Fm} (h : Fm.Le x y) (k : Fm.Le y z) : Fm.Le x z := by
  obtain ⟨r, hr⟩ := h.toks
  obtain ⟨s, hs⟩ := k.toks
  exact ⟨k.id.trans h.id, k.g.trans h.g, k.fin.trans h.fin, ⟨r ++ s, by rw [hs, hr, List.append_assoc]⟩, fun e => k.ended (h.ended e), fun e => k.un (h.un e)⟩
theorem le_ended (x : Fm) : Fm.Le x { x with ended := true } := ⟨rfl, rfl, rfl, ⟨[], by simp⟩, fun _ => rfl, fun e => e⟩
theorem le_endF (p : Fm → Bool) (x : Fm) : Fm.Le x (endF p x) := by
  unfold endF
  split
  · exact le_ended x
  · exact Fm.Le.refl x
theorem le_rotF (st : St) (x : Fm) (n : Bs) (now : Int) : Fm.Le x (rotF st x n now) := ⟨rfl, rfl, rfl, ⟨[n], rfl⟩, fun e => e, fun _ => by simp only [rotF]; omega⟩
/-- Families stay where they are. -/
def Keep (st st' : St) : Prop := ∀ (k : Nat) (x : Fm), st.l[k]? = some x → ∃ y, st'.l[k]? = some y ∧ Fm.Le x y
theorem Keep.refl (st : St) : Keep st st := fun _ x h => ⟨x, h, Fm.Le.refl x⟩
theorem Keep.trans {a b c : St} (h : Keep a b) (k : Keep b c) : Keep a c := fun i x hx => by
  obtain ⟨y, hy, e⟩ := h i x hx
  obtain ⟨z, hz, e2⟩ := k i y hy
  exact ⟨z, hz, e.trans e2⟩
/-- What is there came from what was there. -/
def Back (st st' : St) : Prop := st'.life = st.life ∧ st'.total = st.total ∧ st'.l.length = st.l.length ∧ ∀ (k : Nat) (y : Fm), st'.l[k]? = some y → ∃ x, st.l[k]? = some x ∧ Fm.Le x y
theorem Back.refl (st : St) : Back st st := ⟨rfl, rfl, rfl, fun _ y h => ⟨y, h, Fm.Le.refl y⟩⟩
theorem Back.keep {st st' : St} (h : Back st st') : Keep st st' := fun k x hx => by
  have hk : k < st'.l.length := by rw [h.2.2.1]; exact (List.getElem?_eq_some_iff.1 hx).1
  obtain ⟨x', hx', e⟩ := h.2.2.2 k _ (List.getElem?_eq_getElem hk)
  rw [hx] at hx'
  injection hx' with hx'
  subst hx'
  exact ⟨_, List.getElem?_eq_getElem hk, e⟩
theorem back_end (p : Fm → Bool) (st : St) : Back st (endS p st) := by
  refine ⟨rfl, rfl, by simp [endS], fun k y hy => ?_⟩
  simp only [endS, List.getElem?_map, Option.map_eq_some_iff] at hy
  obtain ⟨x, hx, rfl⟩ := hy
  exact ⟨x, hx, le_endF p x⟩
theorem back_set {st : St} {i : Nat} {x y : Fm} (hx : st.l[i]? = some x) (h : Fm.Le x y) : Back st { st with l := st.l.set i y } := by
  refine ⟨rfl, rfl, by simp, fun k z hz => ?_⟩
  simp only [List.getElem?_set] at hz
  split at hz
  · next e =>
    subst e
    split at hz
    · injection hz with hz; subst hz; exact ⟨x, hx, h⟩
    · cases hz
  · exact ⟨z, hz, Fm.Le.refl z⟩
theorem back_rot (st : St) (t n c : Bs) (sc : List Bs) (now : Int) : Back st (rot st t n c sc now).1 := by
  unfold rot
  split
  · exact Back.refl st
  · next i hi =>
    split
    · exact Back.refl st
    · next x hx =>
      split
      · exact back_set hx (le_ended x)
      · split
        · exact back_set hx (le_rotF st x n now)
        · exact Back.refl st
theorem back_do {st : St} {x : Opx} (h : x.call ≠ 0 ∨ (doS st x).2.2 ≠ 0) : Back st (doS st x).1 := by
  unfold doS at *
  split
  · next e =>
    rw [if_pos e] at h
    unfold start at *
    split at h
    · rcases h with h | h
      · exact absurd e h
      · exact absurd rfl h
    · next e2 => rw [if_neg e2]; exact Back.refl st
  · split
    · exact back_rot st _ _ _ _ _
    · split
      · exact back_end _ st
      · split
        · exact back_end _ st
        · split
          · exact back_end _ st
          · split
            · exact back_end _ st
            · exact Back.refl st
theorem do_start {st : St} {x : Opx} (h : x.call = 0) (h2 : (doS st x).2.2 = 0) : startE st x.id x.tok (mkG x.user x.cl x.ses x.sc) = 0 ∧ (doS st x).1 = { st with l := st.l ++ [newF st x.id x.tok (mkG x.user x.cl x.ses x.sc) x.now] } := by
  unfold doS at *
  rw [if_pos h] at h2 ⊢
  unfold start at *
  split at h2
  · next e => exact ⟨e, by rw [if_pos e]⟩
  · next e => exact absurd h2 e
theorem keep_do (st : St) (x : Opx) : Keep st (doS st x).1 := by
  by_cases h : x.call ≠ 0 ∨ (doS st x).2.2 ≠ 0
  · exact (back_do h).keep
  · have h1 : x.call = 0 := by by_cases e : x.call = 0; exact e; exact absurd (Or.inl e) h
    have h2 : (doS st x).2.2 = 0 := by by_cases e : (doS st x).2.2 = 0; exact e; exact absurd (Or.inr e) h
    rw [(do_start h1 h2).2]
    intro k y hy
    exact ⟨y, by simp only; rw [List.getElem?_append_left (List.getElem?_eq_some_iff.1 hy).1]; exact hy, Fm.Le.refl y⟩
theorem do_life (st : St) (x : Opx) : (doS st x).1.life = st.life ∧ (doS st x).1.total = st.total := by
  by_cases h : x.call ≠ 0 ∨ (doS st x).2.2 ≠ 0
  · exact ⟨(back_do h).1, (back_do h).2.1⟩
  · have h1 : x.call = 0 := by by_cases e : x.call = 0; exact e; exact absurd (Or.inl e) h
    have h2 : (doS st x).2.2 = 0 := by by_cases e : (doS st x).2.2 = 0; exact e; exact absurd (Or.inr e) h
    rw [(do_start h1 h2).2]
    exact ⟨rfl, rfl⟩
theorem tok_at {st : St} (hi : Inv st) {k : Nat} {y : Fm} {t : Bs} (h : st.l[k]? = some y) (ht : t ∈ y.toks) : tokI st.l t = some k := by
  cases hq : tokI st.l t with
  | none => exact absurd ht (tokI_none.1 hq y (List.mem_of_getElem? h))
  | some j =>
    obtain ⟨x, hx, htx⟩ := tokI_some hq
    have e := hi.tk x (List.mem_of_getElem? hx) y (List.mem_of_getElem? h) t htx ht
    have e1 : (st.l.map Fm.id)[j]? = some x.id := by rw [List.getElem?_map, hx]; rfl
    have e2 : (st.l.map Fm.id)[k]? = some x.id := by rw [List.getElem?_map, h, e]; rfl
    rw [nodup_at hi.ids e1 e2]
theorem id_at {st : St} (hi : Inv st) {k : Nat} {y : Fm} (h : st.l[k]? = some y) : idI st.l y.id = some k := by
  cases hq : idI st.l y.id with
  | none =>
    unfold idI at hq
    rw [List.findIdx?_eq_none_iff] at hq
    have := hq y (List.mem_of_getElem? h)
    simp at this
  | some j =>
    obtain ⟨x, hx, htx⟩ := idI_some hq
    have e1 : (st.l.map Fm.id)[j]? = some x.id := by rw [List.getElem?_map, hx]; rfl
    have e2 : (st.l.map Fm.id)[k]? = some x.id := by rw [List.getElem?_map, h, htx]; rfl
    rw [nodup_at hi.ids e1 e2]
theorem rot_at {st : St} {t n c : Bs} {sc : List Bs} {now : Int} {k : Nat} {y : Fm} (hk : tokI st.l t = some k) (hy : st.l[k]? = some y) : rot st t n c sc now = if rotE st y t n c sc now = 18 then ({ st with l := st.l.set k { y with ended := true } }, (noG, 18)) else if rotE st y t n c sc now = 0 then ({ st with l := st.l.set k (rotF st y n now) }, (rotG y sc, 0)) else (st, (noG, rotE st y t n c sc now)) := by
  unfold rot
  rw [hk]
  simp only [hy]

/-- A rotated token. -/
def Gone (st : St) (k : Nat) (t n c : Bs) : Prop := ∃ y, st.l[k]? = some y ∧ t ∈ y.toks ∧ n ∈ y.toks ∧ y.toks.getLast? ≠ some t ∧ y.g.client = c
theorem Gone.keep {st st' : St} {k : Nat} {t n c : Bs} (h : Gone st k t n c) (hk : Keep st st') (hi : Inv st') : Gone st' k t n c := by
  obtain ⟨y, hy, h1, h2, h3, h4⟩ := h
  obtain ⟨z, hz, e⟩ := hk k y hy
  obtain ⟨r, hr⟩ := e.toks
  refine ⟨z, hz, by rw [hr]; simp [h1], by rw [hr]; simp [h2], fun hl => ?_, by rw [e.g]; exact h4⟩
  have hnd := hi.nd z (List.mem_of_getElem? hz)
  rw [hr] at hl hnd
  by_cases hr0 : r = []
  · subst hr0; rw [List.append_nil] at hl; exact h3 hl
  · rw [List.getLast?_append, List.getLast?_eq_some_getLast hr0, Option.some_or, ← List.getLast?_eq_some_getLast hr0] at hl
    have hm : t ∈ r := List.mem_of_getLast? hl
    rw [List.nodup_append] at hnd
    exact hnd.2.2 t h1 t hm rfl
theorem gone_first {st : St} {t n c : Bs} {sc : List Bs} {now : Int} (h : (rot st t n c sc now).2.2 = 0) (hi2 : Inv (rot st t n c sc now).1) : ∃ k, Gone (rot st t n c sc now).1 k t n c := by
  cases hk : tokI st.l t with
  | none => rw [rot_none hk] at h; simp at h
  | some k =>
    obtain ⟨y, hy, hty⟩ := tokI_some hk
    have hr := rot_at (n := n) (c := c) (sc := sc) (now := now) hk hy
    rw [hr] at h
    by_cases e1 : rotE st y t n c sc now = 18
    · rw [if_pos e1] at h; simp at h
    · rw [if_neg e1] at h hr
      by_cases e2 : rotE st y t n c sc now = 0
      · rw [if_pos e2] at hr
        have hz : (rot st t n c sc now).1.l[k]? = some (rotF st y n now) := by
          rw [hr]
          simp only [List.getElem?_set, if_true, (List.getElem?_eq_some_iff.1 hy).1]
        have hnd := hi2.nd _ (List.mem_of_getElem? hz)
        refine ⟨k, _, hz, by simp [rotF, hty], by simp [rotF], fun hl => ?_, ?_⟩
        · simp only [rotF, List.getLast?_concat] at hl
          injection hl with hl
          simp only [rotF, List.nodup_append] at hnd
          exact hnd.2.2 t hty n (by simp) hl.symm
        · simp only [rotF]
          by_cases e : c = y.g.client
          · exact e.symm
          · rw [rotE_11 e] at e2; cases e2
      · rw [if_neg e2] at h; exact absurd h e2
theorem gone_rot {st : St} (hi : Inv st) {k : Nat} {t n c : Bs} (h : Gone st k t n c) (n' c' : Bs) (sc : List Bs) (now : Int) : (rot st t n' c' sc now).2.1 = noG ∧ (rot st t n' c' sc now).2.2 ≠ 0 := by
  obtain ⟨y, hy, h1, h2, h3, h4⟩ := h
  have hr := rot_at (n := n') (c := c') (sc := sc) (now := now) (tok_at hi hy h1) hy
  by_cases e : c' = y.g.client
  · have he : rotE st y t n' c' sc now = 18 := by unfold rotE; rw [if_neg (by simp [e]), if_pos (fun hq => h3 hq.symm)]
    rw [hr, if_pos he]
    exact ⟨rfl, by simp⟩
  · have he : rotE st y t n' c' sc now = 11 := rotE_11 e
    rw [hr, he]
    exact ⟨rfl, by simp⟩
/-- A second use of a token, then a use of its successor. -/
theorem gone_last {st : St} (hi : Inv st) {k : Nat} {t n c : Bs} (h : Gone st k t n c) (z z' : Bs) (now : Int) (hi2 : Inv (rot st t z c [] now).1) (hi3 : Inv (rot (rot st t z c [] now).1 n z' c [] now).1) :
    (rot st t z c [] now).2.2 = 18 ∧ ∃ i, famT (rot st t z c [] now).1 n = some i ∧ i.size ≤ 100000 ∧ ((rot (rot st t z c [] now).1 n z' c [] now).2.2 = 25 ∨ (rot (rot st t z c [] now).1 n z' c [] now).2.2 = 18) ∧ liveI (rot (rot st t z c [] now).1 n z' c [] now).1 i now = false := by
  obtain ⟨y, hy, h1, h2, h3, h4⟩ := h
  have he : rotE st y t z c [] now = 18 := by unfold rotE; rw [if_neg (by simp [h4]), if_pos (fun hq => h3 hq.symm)]
  have hr := rot_at (n := z) (c := c) (sc := []) (now := now) (tok_at hi hy h1) hy
  rw [if_pos he] at hr
  generalize rot st t z c [] now = a at *
  subst hr
  have hy2 : (st.l.set k { y with ended := true })[k]? = some { y with ended := true } := by
    simp only [List.getElem?_set, if_true, (List.getElem?_eq_some_iff.1 hy).1]
  have ht2 := tok_at (t := n) hi2 hy2 h2
  refine ⟨rfl, y.id, by unfold famT; rw [ht2]; simp only [Option.bind_some]; rw [hy2]; rfl, by have := (hi.sz y (List.mem_of_getElem? hy)).1.2; omega, ?_, ?_⟩
  · rw [rot_at ht2 hy2]
    have e : rotE { st with l := st.l.set k { y with ended := true } } { y with ended := true } n z' c [] now = 18 ∨ rotE { st with l := st.l.set k { y with ended := true } } { y with ended := true } n z' c [] now = 25 := by
      unfold rotE
      rw [if_neg (by simp [h4])]
      split
      · exact Or.inl rfl
      · exact Or.inr rfl
    rcases e with e | e
    · rw [if_pos e]; exact Or.inr rfl
    · rw [e]; exact Or.inl rfl
  · obtain ⟨u, hu, hle⟩ := (back_rot { st with l := st.l.set k { y with ended := true } } n z' c [] now).keep k _ hy2
    have hid := id_at hi3 hu
    rw [hle.id] at hid
    unfold liveI
    simp only at hid
    rw [hid]
    simp only [hu]
    unfold liveF
    rw [hle.ended rfl]
    rfl

/-- What a rotation that succeeds returns. -/
theorem rot_good {st : St} {t n c : Bs} {sc : List Bs} {now : Int} (h : (rot st t n c sc now).2.2 = 0) : ∃ (k : Nat) (y : Fm), tokI st.l t = some k ∧ st.l[k]? = some y ∧ t ∈ y.toks ∧ y.ended = false ∧ withinS sc y.g.scopes = true ∧ (rot st t n c sc now).2.1 = rotG y sc ∧ (rot st t n c sc now).1 = { st with l := st.l.set k (rotF st y n now) } := by
  cases hk : tokI st.l t with
  | none => rw [rot_none hk] at h; simp at h
  | some k =>
    obtain ⟨y, hy, hty⟩ := tokI_some hk
    have hr := rot_at (n := n) (c := c) (sc := sc) (now := now) hk hy
    rw [hr] at h
    by_cases e1 : rotE st y t n c sc now = 18
    · rw [if_pos e1] at h; simp at h
    · rw [if_neg e1] at h hr
      by_cases e2 : rotE st y t n c sc now = 0
      · rw [if_pos e2] at hr
        refine ⟨k, y, rfl, hy, hty, ?_, ?_, by rw [hr], by rw [hr]⟩
        · cases he : y.ended with
          | false => rfl
          | true =>
            unfold rotE at e2
            rw [he] at e2
            split at e2
            · cases e2
            · split at e2
              · cases e2
              · simp at e2
        · cases hw : withinS sc y.g.scopes with
          | true => rfl
          | false =>
            unfold rotE at e2
            rw [hw] at e2
            repeat' split at e2
            all_goals first | (cases e2; done) | (next hf _ => exact absurd rfl hf) | simp_all
      · rw [if_neg e2] at h; exact absurd h e2
/-- Families of a session, or of a user, are ended. -/
def Shut (p : Gr → Bool) (st : St) : Prop := ∀ y ∈ st.l, p y.g = true → y.ended = true
theorem Shut.back {p : Gr → Bool} {st st' : St} (h : Shut p st) (hb : Back st st') : Shut p st' := fun y hy hp => by
  obtain ⟨k, hk⟩ := List.getElem?_of_mem hy
  obtain ⟨x, hx, e⟩ := hb.2.2.2 k y hk
  exact e.ended (h x (List.mem_of_getElem? hx) (by rw [← e.g]; exact hp))
theorem shut_end (p : Gr → Bool) (st : St) : Shut p (endS (fun x => p x.g) st) := fun y hy hp => by
  simp only [endS, List.mem_map] at hy
  obtain ⟨x, _, rfl⟩ := hy
  unfold endF at *
  split at hp
  · next e => rw [if_pos e]
  · next e =>
    rw [if_neg e]
    cases he : x.ended with
    | true => rfl
    | false => simp only [he, hp] at e; exact absurd rfl e
theorem shut_none {p : Gr → Bool} {st : St} (h : Shut p st) : endN (fun x => p x.g) st = 0 := by
  unfold endN
  rw [List.countP_eq_zero]
  intro x hx
  cases hp : p x.g with
  | false => simp [hp]
  | true => simp [h x hx hp]
theorem shut_rot {p : Gr → Bool} {st : St} (hs : Shut p st) (hp : ∀ (g : Gr) (sc : List Bs), p { g with scopes := sc } = p g) {t n c : Bs} {sc : List Bs} {now : Int} (h : (rot st t n c sc now).2.2 = 0) : p (rot st t n c sc now).2.1 = false := by
  obtain ⟨k, y, _, hy, _, he, _, hg, _⟩ := rot_good h
  rw [hg]
  unfold rotG
  rw [hp]
  cases hq : p y.g with
  | false => rfl
  | true => rw [hs y (List.mem_of_getElem? hy) hq] at he; cases he

/-- What the families began with. -/
def Begun (bs : List Opx) (st : St) : Prop := bs.length = st.l.length ∧ ∀ (k : Nat) (y : Fm), st.l[k]? = some y → ∃ b, bs[k]? = some b ∧ y.id = b.id ∧ y.g = mkG b.user b.cl b.ses b.sc ∧ b.sc.all scp = true
theorem Begun.back {bs : List Opx} {st st' : St} (h : Begun bs st) (hb : Back st st') : Begun bs st' := by
  refine ⟨by rw [hb.2.2.1]; exact h.1, fun k y hk => ?_⟩
  obtain ⟨x, hx, e⟩ := hb.2.2.2 k y hk
  obtain ⟨b, h1, h2, h3, h4⟩ := h.2 k x hx
  exact ⟨b, h1, by rw [e.id]; exact h2, by rw [e.g]; exact h3, h4⟩
theorem scanS_all : ∀ {l d : List Bs}, scanS d l = 0 → l.all scp = true
  | [], _, _ => rfl
  | s :: r, d, h => by
    unfold scanS at h
    split at h
    · cases h
    · next e =>
      split at h
      · cases h
      · rw [List.all_cons, scanS_all h, Bool.and_true]
        simpa using e
theorem chkS_all {l : List Bs} (h : chkS l = 0) : l.all scp = true := by
  unfold chkS at h
  split at h
  · cases h
  · exact scanS_all h
theorem startE_ok {st : St} {i t : Bs} {g : Gr} (h : startE st i t g = 0) : chkS g.scopes = 0 ∧ idI st.l i = none := by
  unfold startE at h
  split at h
  · cases h
  · split at h
    · next e => exact absurd h e
    · next e =>
      split at h
      · cases h
      · next e2 =>
        refine ⟨by simpa using e, ?_⟩
        by_cases e3 : idI st.l i = none
        · exact e3
        · exact absurd (Or.inr e3) e2
theorem begun_start {bs : List Opx} {st : St} {x : Opx} (h : Begun bs st) (hc : x.call = 0) (h2 : (doS st x).2.2 = 0) : Begun (bs ++ [x]) (doS st x).1 := by
  obtain ⟨e1, e2⟩ := do_start hc h2
  rw [e2]
  refine ⟨by simp [h.1], fun k y hk => ?_⟩
  simp only at hk
  rcases Nat.lt_or_ge k st.l.length with hlt | hge
  · rw [List.getElem?_append_left hlt] at hk
    obtain ⟨b, h3⟩ := h.2 k y hk
    exact ⟨b, by rw [List.getElem?_append_left (by rw [h.1]; exact hlt)]; exact h3.1, h3.2⟩
  · have hk2 : k = st.l.length := by
      have := (List.getElem?_eq_some_iff.1 hk).1
      simp at this
      omega
    subst hk2
    rw [List.getElem?_append_right (Nat.le_refl _)] at hk
    simp at hk
    subst hk
    exact ⟨x, by rw [List.getElem?_append_right (by rw [h.1]; exact Nat.le_refl _)]; simp [h.1], rfl, rfl, chkS_all (startE_ok e1).1⟩
theorem begun_ids {bs : List Opx} {st : St} (h : Begun bs st) (hi : Inv st) {k j : Nat} {a b : Opx} (hk : bs[k]? = some a) (hj : bs[j]? = some b) (e : a.id = b.id) : k = j := by
  have hk1 : k < st.l.length := by rw [← h.1]; exact (List.getElem?_eq_some_iff.1 hk).1
  have hj1 : j < st.l.length := by rw [← h.1]; exact (List.getElem?_eq_some_iff.1 hj).1
  obtain ⟨a', h1, h2, _⟩ := h.2 k _ (List.getElem?_eq_getElem hk1)
  obtain ⟨b', h3, h4, _⟩ := h.2 j _ (List.getElem?_eq_getElem hj1)
  rw [hk] at h1; injection h1 with h1; subst h1
  rw [hj] at h3; injection h3 with h3; subst h3
  have e1 : (st.l.map Fm.id)[k]? = some a.id := by rw [List.getElem?_map, List.getElem?_eq_getElem hk1]; simp only [Option.map_some]; rw [h2]
  have e2 : (st.l.map Fm.id)[j]? = some a.id := by rw [List.getElem?_map, List.getElem?_eq_getElem hj1]; simp only [Option.map_some]; rw [h4, e]
  exact nodup_at hi.ids e1 e2
theorem impl_self {s : Bs} (h : scp s = true) : implS s s = true := by simp [implS, h]
theorem within_self {l : List Bs} (h : l.all scp = true) : withinS l l = true := by
  unfold withinS
  rw [List.all_eq_true] at *
  intro s hs
  unfold covS
  rw [List.any_eq_true]
  exact ⟨s, hs, impl_self (h s hs)⟩
/-- The family of a token that was rotated, and what it began with. -/
theorem begun_rot {bs : List Opx} {st : St} (h : Begun bs st) {t n c : Bs} {sc : List Bs} {now : Int} (hi2 : Inv (rot st t n c sc now).1) (hr : (rot st t n c sc now).2.2 = 0) :
    ∃ (k : Nat) (b : Opx), bs[k]? = some b ∧ famT (rot st t n c sc now).1 t = some b.id ∧ (rot st t n c sc now).2.1 = mkG b.user b.cl b.ses (rot st t n c sc now).2.1.scopes ∧ withinS (rot st t n c sc now).2.1.scopes b.sc = true := by
  obtain ⟨k, y, _, hy, ht, _, hw, hg, hs⟩ := rot_good hr
  obtain ⟨b, h1, h2, h3, h4⟩ := h.2 k y hy
  refine ⟨k, b, h1, ?_, ?_, ?_⟩
  · have hy2 : (rot st t n c sc now).1.l[k]? = some (rotF st y n now) := by
      rw [hs]
      simp only [List.getElem?_set, if_true, (List.getElem?_eq_some_iff.1 hy).1]
    unfold famT
    rw [tok_at (t := t) hi2 hy2 (by simp [rotF, ht])]
    simp only [Option.bind_some]
    rw [hy2, ← h2]
    rfl
  · rw [hg]; unfold rotG; rw [h3]; rfl
  · rw [hg]
    unfold rotG
    rw [h3] at hw ⊢
    simp only [mkG] at hw ⊢
    split
    · exact within_self h4
    · exact hw

/-- A family that ends at an instant, and is not live thereafter. -/
def Bound (st : St) (k : Nat) (i : Bs) (f : Int) : Prop := ∃ y, st.l[k]? = some y ∧ y.id = i ∧ y.fin = f ∧ y.untl ≤ y.fin
theorem Bound.keep {st st' : St} {k : Nat} {i : Bs} {f : Int} (h : Bound st k i f) (hk : Keep st st') : Bound st' k i f := by
  obtain ⟨y, hy, h1, h2, h3⟩ := h
  obtain ⟨z, hz, e⟩ := hk k y hy
  exact ⟨z, hz, by rw [e.id]; exact h1, by rw [e.fin]; exact h2, e.un h3⟩
theorem bound_start {st : St} {x : Opx} (hc : x.call = 0) (h2 : (doS st x).2.2 = 0) : Bound (doS st x).1 st.l.length x.id (addC x.now st.total) := by
  obtain ⟨e1, e2⟩ := do_start hc h2
  rw [e2]
  refine ⟨newF st x.id x.tok (mkG x.user x.cl x.ses x.sc) x.now, ?_, rfl, rfl, ?_⟩
  · simp only; rw [List.getElem?_append_right (Nat.le_refl _)]; simp
  · simp only [newF]; omega
theorem bound_dead {st : St} (hi : Inv st) {k : Nat} {i : Bs} {f : Int} (h : Bound st k i f) {now : Int} (hn : f ≤ limI now) : liveI st i now = false := by
  obtain ⟨y, hy, h1, h2, h3⟩ := h
  have := id_at hi hy
  rw [h1] at this
  unfold liveI
  rw [this]
  simp only [hy]
  unfold liveF
  simp only [Bool.and_eq_false_iff, decide_eq_false_iff_not]
  exact Or.inr (by omega)
theorem start_live {st : St} {x : Opx} (hc : x.call = 0) (h2 : (doS st x).2.2 = 0) (hi2 : Inv (doS st x).1) (h0 : 0 ≤ x.now) (h1 : x.now ≤ 1073741824) (hl : 1 ≤ st.life) (ht : 1 ≤ st.total) : liveI (doS st x).1 x.id x.now = true := by
  obtain ⟨e1, e2⟩ := do_start hc h2
  rw [e2] at hi2 ⊢
  have hy : (st.l ++ [newF st x.id x.tok (mkG x.user x.cl x.ses x.sc) x.now])[st.l.length]? = some (newF st x.id x.tok (mkG x.user x.cl x.ses x.sc) x.now) := by rw [List.getElem?_append_right (Nat.le_refl _)]; simp
  have := id_at hi2 (k := st.l.length) hy
  unfold liveI
  have e3 : (newF st x.id x.tok (mkG x.user x.cl x.ses x.sc) x.now).id = x.id := rfl
  rw [e3] at this
  rw [this]
  simp only [hy]
  unfold liveF newF addC limI
  simp only [Bool.not_false, Bool.true_and, decide_eq_true_eq]
  omega
end Go.Proofs.Ytfeljihbaekfmaa.Rf
