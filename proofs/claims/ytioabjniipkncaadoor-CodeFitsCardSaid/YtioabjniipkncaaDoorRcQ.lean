/-
  Plain laws of authorization codes: Purges, Tries, Fits. No program.
-/
import Derived.Test.YtioabjniipkncaaDoorRcRu
namespace Go.Proofs.YtioabjniipkncaaDoor.Rc
open Go.RowKit Go.Proofs.YtioabjniipkncaaDoor.Fo Go.Proofs.YtioabjniipkncaaDoor.Rf Go.Maps

theorem addC_r (t d : Int) : addC t (limI d) = addC t d := by unfold addC; rw [limI_lim]
theorem new_end {st : Ct} {w : Bs} {g : Gr} {now life : Int} (h : st.life = limI life) : (newC st w g now).fin = addC now life := by
  unfold newC; simp only [h]; exact addC_r _ _
theorem old_is {st : Ct} {x : Cd} {life at_ : Int} (h : st.life = limI life) : old st.life at_ x = decide (addC x.fin life ≤ limI at_) := by
  unfold old; rw [h, addC_r]
theorem pu_len (st : Ct) (now : Int) : (puS st now).l.length ≤ st.l.length := List.length_filter_le _ _
theorem pu_mem {st : Ct} {now : Int} {x : Cd} (h : x ∈ (puS st now).l) : x ∈ st.l ∧ old st.life now x = false := by
  have := List.mem_filter.1 h
  exact ⟨this.1, by simpa using this.2⟩
theorem pu_keep {st : Ct} {now : Int} {x : Cd} (h : x ∈ st.l) (ho : old st.life now x = false) : x ∈ (puS st now).l := List.mem_filter.2 ⟨h, by simp [ho]⟩
theorem pu_lt {st : Ct} {now : Int} {x : Cd} (h : x ∈ st.l) (ho : old st.life now x = true) : (puS st now).l.length < st.l.length := by
  refine Nat.lt_of_le_of_ne (pu_len st now) (fun e => ?_)
  have := List.length_filter_eq_length_iff.1 (show (st.l.filter fun x => !old st.life now x).length = st.l.length from e) x h
  simp [ho] at this
theorem issE_ok {st : Ct} {w : Bs} {g : Gr} (h1 : wrd w = true ∧ wrd g.user = true ∧ wrd g.client = true ∧ wrd g.tenant = true ∧ wrd g.session = true) (h2 : cdI st.l w = none) (h3 : ckG g = 0) (h4 : st.l.length < 256) : issE st w g = 0 := by
  unfold issE
  rw [if_neg (by simp [h1.1, h1.2.1, h1.2.2.1, h1.2.2.2.1, h1.2.2.2.2]), if_neg (by simp [h2]), if_neg (by simp [h3]), if_neg (by omega)]
theorem issE_twice {st : Ct} {w : Bs} {g : Gr} (h1 : wrd w = true ∧ wrd g.user = true ∧ wrd g.client = true ∧ wrd g.tenant = true ∧ wrd g.session = true) (h2 : cdI st.l w ≠ none) : issE st w g = 7 := by
  unfold issE
  rw [if_neg (by simp [h1.1, h1.2.1, h1.2.2.1, h1.2.2.2.1, h1.2.2.2.2]), if_pos h2]
/-- Purges: the code is gone at that instant. -/
theorem purges_gone {st st1 st3 : Ct} {word : Bs} {g : Gr} {now at_ life e : Int} (hlf : st.life = limI life) (hi : iss st word g now = (st1, 0)) (hv : Inv st1) (hj : iss (puS st1 at_) word g now = (st3, e)) (hg : addC (addC now life) life ≤ limI at_) : e = 0 := by
  have h0 := iss_ok (st := st) (w := word) (g := g) (now := now) (by rw [hi])
  obtain ⟨h1, h2, h3, h4⟩ := issE_zero h0.2
  have e1 : st1 = { st with l := st.l ++ [newC st word g now] } := by have := h0.1; rw [hi] at this; exact (Prod.mk.inj this).1
  have hm : newC st word g now ∈ st1.l := by rw [e1]; simp
  have hl1 : st1.life = limI life := by rw [e1]; exact hlf
  have ho : old st1.life at_ (newC st word g now) = true := by rw [old_is hl1, new_end hlf]; exact decide_eq_true hg
  have hc : cdI (puS st1 at_).l word = none := by
    rw [cdI_none]
    intro x hx ex
    obtain ⟨hx1, hx2⟩ := pu_mem hx
    have : x = newC st word g now := uniq hv hx1 hm ex
    rw [this, ho] at hx2
    cases hx2
  have hlen := pu_lt hm ho
  have h5 := hv.len
  have := issE_ok h1 hc h3 (by omega)
  unfold iss at hj
  rw [if_pos this] at hj
  exact (Prod.mk.inj hj).2.symm
/-- Purges: the code is still there. -/
theorem purges_kept {st st1 st3 : Ct} {word : Bs} {g : Gr} {now at_ life e : Int} (hlf : st.life = limI life) (hi : iss st word g now = (st1, 0)) (hj : iss (puS st1 at_) word g now = (st3, e)) (hg : ¬ addC (addC now life) life ≤ limI at_) : e = 7 ∧ st3 = puS st1 at_ := by
  have h0 := iss_ok (st := st) (w := word) (g := g) (now := now) (by rw [hi])
  obtain ⟨h1, h2, h3, h4⟩ := issE_zero h0.2
  have e1 : st1 = { st with l := st.l ++ [newC st word g now] } := by have := h0.1; rw [hi] at this; exact (Prod.mk.inj this).1
  have hm : newC st word g now ∈ st1.l := by rw [e1]; simp
  have hl1 : st1.life = limI life := by rw [e1]; exact hlf
  have ho : old st1.life at_ (newC st word g now) = false := by rw [old_is hl1, new_end hlf]; exact decide_eq_false hg
  have hc : cdI (puS st1 at_).l word ≠ none := by
    rw [Ne, cdI_none]
    exact fun h => h _ (pu_keep hm ho) rfl
  have := issE_twice h1 hc
  unfold iss at hj
  rw [if_neg (by rw [this]; decide), this] at hj
  exact ⟨(Prod.mk.inj hj).2.symm, (Prod.mk.inj hj).1.symm⟩
/-- The code that was just recorded. -/
theorem iss_new {st st1 : Ct} {word : Bs} {g : Gr} {now life : Int} (hlf : st.life = limI life) (hi : iss st word g now = (st1, 0)) : ∃ x ∈ st1.l, x.w = word ∧ x.g = g ∧ x.fin = addC now life ∧ x.used = false ∧ x.att = false ∧ x.drp = false ∧ frmG g = true := by
  have h0 := iss_ok (st := st) (w := word) (g := g) (now := now) (by rw [hi])
  have h1 := iss_mem (st := st) (w := word) (g := g) (now := now) (by rw [hi])
  rw [hi] at h1
  exact ⟨_, h1, rfl, rfl, new_end hlf, rfl, rfl, rfl, ckG_fr (issE_zero h0.2).2.2.1⟩
/-- Redeem of a code that is there. -/
theorem red_there {st : Ct} (hv : Inv st) {word c r : Bs} {pv : Gr → Bool} {now : Int} {x : Cd} (hx : x ∈ st.l) (hw : x.w = word) : ∃ i, st.l[i]? = some x ∧ red st word c r pv now = ({ st with l := st.l.set i (redX x (redE x c r (pv x.g) now)) }, (if redE x c r (pv x.g) now = 0 then x.g else noG, redE x c r (pv x.g) now)) := by
  rcases red_cases st word c r pv now with ⟨_, h⟩ | ⟨i, y, k, hy, hyw, hk, e⟩
  · exact absurd hw (h x hx)
  · have : y = x := uniq hv (List.mem_of_getElem? hy) hx (hyw.trans hw.symm)
    subst this
    subst hk
    exact ⟨i, hy, e⟩
theorem set_mem {α : Type} {l : List α} {i : Nat} {x y : α} (h : l[i]? = some x) : y ∈ l.set i y := List.mem_set (List.getElem?_eq_some_iff.1 h).1 y
theorem redE_18 {x : Cd} {c r : Bs} {pv : Bool} {now : Int} (h : x.used = false) : redE x c r pv now ≠ 18 := by
  unfold redE
  rw [if_neg (by rw [h]; decide)]
  repeat' split
  all_goals decide
/-- Tries: what the first attempt leaves. -/
theorem tries_one {st st1 st2 : Ct} {word c r v : Bs} {g : Gr} {now life e : Int} {q : Gr} (hlf : st.life = limI life) (hi : iss st word g now = (st1, 0)) (hv : Inv st1) (hr : red st1 word c r (prv v) now = (st2, (q, e))) (hv2 : Inv st2) :
    usedS st2 word = decide (e = 0 ∨ e = 20) ∧ attS st2 word = false ∧ ∃ x ∈ st2.l, x.w = word ∧ x.g = g ∧ x.fin = addC now life ∧ x.used = decide (e = 0 ∨ e = 20) ∧ x.drp = false ∧ x.att = false ∧ ((e = 11 ∨ e = 2) → ¬ addC now life ≤ limI now) := by
  obtain ⟨x, hx, h1, h2, h3, h4, h5, h6, _⟩ := iss_new hlf hi
  obtain ⟨i, hxi, he⟩ := red_there hv (c := c) (r := r) (pv := prv v) (now := now) hx h1
  rw [hr] at he
  obtain ⟨e1, e2⟩ := Prod.mk.inj he
  obtain ⟨_, e3⟩ := Prod.mk.inj e2
  have hE : e ≠ 18 := by rw [e3]; exact redE_18 h4
  have hX : (redX x e).used = decide (e = 0 ∨ e = 20) ∧ (redX x e).att = false ∧ (redX x e).drp = false := by
    unfold redX
    rw [if_neg hE]
    by_cases h : e = 20 ∨ e = 0
    · rw [if_pos h]; exact ⟨(decide_eq_true (by omega)).symm, h5, h6⟩
    · rw [if_neg h]; exact ⟨h4.trans (decide_eq_false (by omega)).symm, h5, h6⟩
  have hm : redX x e ∈ st2.l := by rw [e1, ← e3]; exact set_mem hxi
  have hw := (redX_same x e)
  have hxw : (redX x e).w = word := hw.1.trans h1
  refine ⟨(used_mem hv2 hm hxw).trans hX.1, (att_mem hv2 hm hxw).trans hX.2.1, _, hm, hxw, hw.2.1.trans h2, hw.2.2.trans h3, hX.1, hX.2.2, hX.2.1, fun h => ?_⟩
  rw [← h3]
  intro hle
  have : e = 13 := by
    rw [e3]
    unfold redE
    rw [if_neg (by rw [h4]; decide), if_neg (by rw [h6]; decide), if_pos hle]
  omega
/-- Tries: the second attempt, after a use. -/
theorem tries_used {st2 st3 : Ct} {word c r v : Bs} {now f : Int} {q : Gr} {x : Cd} (hv2 : Inv st2) (hx : x ∈ st2.l) (hw : x.w = word) (hu : x.used = true) (hr : red st2 word c r (prv v) now = (st3, (q, f))) (hv3 : Inv st3) : f = 18 ∧ attS st3 word = true := by
  obtain ⟨i, hxi, he⟩ := red_there hv2 (c := c) (r := r) (pv := prv v) (now := now) hx hw
  rw [hr] at he
  obtain ⟨e1, e2⟩ := Prod.mk.inj he
  obtain ⟨_, e3⟩ := Prod.mk.inj e2
  have hf : f = 18 := by rw [e3]; unfold redE; rw [if_pos hu]
  refine ⟨hf, ?_⟩
  have hm : redX x f ∈ st3.l := by rw [e1, ← e3]; exact set_mem hxi
  rw [att_mem hv3 hm ((redX_same x f).1.trans hw), hf]
  rfl
/-- Tries: the second attempt, of a code that was not used up. -/
theorem tries_free {st2 st3 : Ct} {word v : Bs} {g : Gr} {now f : Int} {q : Gr} {x : Cd} (hv2 : Inv st2) (hx : x ∈ st2.l) (hw : x.w = word) (hg : x.g = g) (hu : x.used = false) (hd : x.drp = false) (hfin : ¬ x.fin ≤ limI now) (hr : red st2 word g.client g.redirect (prv v) now = (st3, (q, f))) : f = 0 ∨ f = 20 := by
  obtain ⟨i, hxi, he⟩ := red_there hv2 (c := g.client) (r := g.redirect) (pv := prv v) (now := now) hx hw
  rw [hr] at he
  obtain ⟨e1, e2⟩ := Prod.mk.inj he
  obtain ⟨_, e3⟩ := Prod.mk.inj e2
  rw [e3]
  unfold redE
  rw [if_neg (by rw [hu]; decide), if_neg (by rw [hd]; decide), if_neg hfin, if_neg (by rw [hg]; simp), if_neg (by rw [hg]; simp)]
  split
  · exact Or.inr rfl
  · exact Or.inl rfl
/-- Fits: a grant comes back. -/
theorem fits_ok {st st1 st2 : Ct} {word c r v : Bs} {g q : Gr} {now now2 life : Int} (hlf : st.life = limI life) (hi : iss st word g now = (st1, 0)) (hv : Inv st1) (hr : red st1 word c r (prv v) now2 = (st2, (q, 0))) : q = g ∧ c = g.client ∧ r = g.redirect ∧ prv v g = true ∧ ¬ addC now life ≤ limI now2 ∧ frmG g = true := by
  obtain ⟨x, hx, h1, h2, h3, h4, h5, h6, h7⟩ := iss_new hlf hi
  obtain ⟨y, hy, k1, k2, _, _, k5, k6, k7, k8, _⟩ := red_ok (st := st1) (w := word) (c := c) (r := r) (pv := prv v) (now := now2) (by rw [hr])
  have : y = x := uniq hv hy hx (k1.trans h1.symm)
  subst this
  rw [hr] at k2
  rw [h2] at k6 k7 k8
  rw [h3] at k5
  exact ⟨k2.trans h2, k6, k7, k8, k5, h7⟩
theorem fits_no {st1 st2 : Ct} {word c r v : Bs} {q : Gr} {now2 e : Int} (hr : red st1 word c r (prv v) now2 = (st2, (q, e))) (he : e ≠ 0) : q = noG := by
  have := red_bad_g (st := st1) (w := word) (c := c) (r := r) (pv := prv v) (now := now2) (by rw [hr]; exact he)
  rw [hr] at this
  exact this
theorem frm_method {g : Gr} (h : frmG g = true) (hc : g.challenge ≠ eB) : g.method = 1 ∨ g.method = 2 := by
  unfold frmG at h
  simp only [Bool.and_eq_true, Bool.or_eq_true, decide_eq_true_eq] at h
  rcases h.2 with ⟨e, _⟩ | ⟨_, e⟩
  · exact absurd e hc
  · exact e
end Go.Proofs.YtioabjniipkncaaDoor.Rc
