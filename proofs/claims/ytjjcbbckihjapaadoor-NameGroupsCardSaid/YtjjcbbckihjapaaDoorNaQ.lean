/-
  Plain laws of layer 5 (name): cases of letters, parents and children, under, rebase, the order. No walk.
-/
import Derived.Test.YtjjcbbckihjapaaDoorNaP
import Derived.Test.YtjjcbbckihjapaaDoorFoO
namespace Go.Proofs.YtjjcbbckihjapaaDoor.Na
open Go.Proofs.YtjjcbbckihjapaaDoor.Fo

/-- A component in lower case. -/
def lowP (p : Pr) : Pr := (lowL p.1, lowL p.2)
theorem low_drop (l : List UInt8) (k : Nat) : (lowL l).drop k = lowL (l.drop k) := by simp [lowL, List.map_drop]
theorem low_take (l : List UInt8) (k : Nat) : (lowL l).take k = lowL (l.take k) := by simp [lowL, List.map_take]
theorem nxt_low (c : UInt8) (hc : c = 44 ∨ c = 61) (s : List UInt8) : nxt c (lowL s) = nxt c s := by
  have hc' : c = 44 ∨ c = 61 ∨ c = 92 := by rcases hc with h | h <;> simp [h]
  fun_induction nxt c s with
  | case1 => rfl
  | case2 => subst_vars; simp [lowL, nxt, (low_eq c c hc').2 rfl]
  | case3 x h => simp [lowL, nxt, low_eq x c hc', h]
  | case4 => subst_vars; simp [lowL, nxt, (low_eq c c hc').2 rfl]
  | case5 y r h ih =>
    have : lowB 92 = 92 := by decide
    simp only [lowL, List.map_cons] at ih ⊢
    simp [nxt, this, h]
    exact ih
  | case6 x y r h1 h2 ih =>
    simp only [lowL, List.map_cons] at ih ⊢
    rw [nxt]
    rw [if_neg (by rw [low_eq x c hc']; exact h1), if_neg (by rw [low_eq x 92 (by simp)]; exact h2), ih]
theorem valF_low (s : List UInt8) : valF (lowL s) = (valF s).map lowL := by
  fun_induction valF s with
  | case1 => rfl
  | case2 x h => simp [lowL, valF, spB_low, h]
  | case3 x h => simp [lowL, valF, spB_low, h]
  | case4 y r h ih =>
    have : lowB 92 = 92 := by decide
    simp only [lowL, List.map_cons] at ih ⊢
    rw [valF, if_pos this, spB_low, if_pos h, ih]
    simp [Function.comp_def, lowL]
  | case5 y r h =>
    have : lowB 92 = 92 := by decide
    simp only [lowL, List.map_cons]
    rw [valF, if_pos this, spB_low, if_neg h]
    rfl
  | case6 x y r h1 h2 =>
    simp only [lowL, List.map_cons]
    rw [valF, if_neg (by rw [low_eq x 92 (by simp)]; exact h1), spB_low, if_pos h2]
    rfl
  | case7 x y r h1 h2 ih =>
    simp only [lowL, List.map_cons] at ih ⊢
    rw [valF, if_neg (by rw [low_eq x 92 (by simp)]; exact h1), spB_low, if_neg h2, ih]
    simp [Function.comp_def, lowL]
theorem compC_low (s : List UInt8) : compC (lowL s) = (lowP (compC s).1, (compC s).2) := by
  unfold compC
  rw [nxt_low 61 (Or.inr rfl), lowL_len, low_drop, low_take, trim_low, trim_low, valF_low, namL_low]
  split
  · split
    · next h => simp at h; rw [h]; rfl
    · next v h =>
      simp at h
      obtain ⟨u, hu, rfl⟩ := h
      rw [hu, clnL_low]
      simp only
      split
      · rfl
      · split <;> rfl
  · rfl
theorem pcs_low (n : Nat) (s : List UInt8) (h : s.length ≤ n) : pcs (lowL s) = (pcs s).map lowL := by
  induction n generalizing s with
  | zero =>
    have : s = [] := List.eq_nil_of_length_eq_zero (by omega)
    subst this
    rfl
  | succ n ih =>
    by_cases h1 : nxt 44 s < s.length
    · rw [pcs_yes h1, pcs_yes (by rw [nxt_low 44 (Or.inl rfl), lowL_len]; exact h1), nxt_low 44 (Or.inl rfl), low_take, low_drop, ih _ (by rw [List.length_drop]; omega)]
      rfl
    · rw [pcs_no h1, pcs_no (by rw [nxt_low 44 (Or.inl rfl), lowL_len]; exact h1)]
      rfl
theorem prsL_low (l : List (List UInt8)) (acc : List Pr) : prsL (l.map lowL) (acc.map lowP) = ((prsL l acc).1.map lowP, (prsL l acc).2) := by
  induction l generalizing acc with
  | nil => simp only [List.map_nil, prsL, List.length_map]; split <;> rfl
  | cons x r ih =>
    rw [List.map_cons, prsL, prsL, compC_low]
    split
    · rfl
    · have := ih (acc ++ [(compC x).1])
      rw [List.map_append] at this
      exact this
theorem prs_low (s : List UInt8) : prs (lowL s) = ((prs s).1.map lowP, (prs s).2) := by
  unfold prs
  by_cases h : s = []
  · subst h; rfl
  · rw [if_neg h, if_neg (by intro e; exact h (List.map_eq_nil_iff.1 e)), pcs_low s.length s (Nat.le_refl _)]
    exact prsL_low (pcs s) []
theorem chkF_low (l : List Pr) : chkF (l.map lowP) = chkF l := by
  induction l with
  | nil => rfl
  | cons p r ih => rw [List.map_cons, chkF, chkF, ih]; simp only [lowP, namL_low, clnL_low]
theorem comL_low (p : Pr) : comL (lowP p) = comL p := by simp [comL, lowP, lowL_idem, fold_low]
theorem tail_low (l : List Pr) : tailL (l.map lowP) = tailL l := by
  induction l with
  | nil => rfl
  | cons p r ih => rw [List.map_cons, tailL, tailL, comL_low, ih]
theorem join_low (l : List Pr) : joinL (l.map lowP) = joinL l := by
  cases l with
  | nil => rfl
  | cons p r => rw [List.map_cons, joinL, joinL, comL_low, tail_low]
theorem fmt_low (l : List Pr) : fmt (l.map lowP) = fmt l := by
  unfold fmt chkL
  rw [chkF_low, join_low, List.length_map]
/-- Clean does not depend on the case. -/
theorem cln_low (s : List UInt8) : cln (lowL s) = cln s := by
  unfold cln
  rw [prs_low]
  simp only
  rw [fmt_low]
/-- Clean changes nothing a second time. -/
theorem cln_idem {s : List UInt8} (h : (cln s).2 = 0) : valid (cln s).1 = true ∧ cln (cln s).1 = ((cln s).1, 0) := by
  obtain ⟨a, b, c⟩ := cln_ok h
  rw [c]
  simp only
  rw [← join_nrm]
  exact ⟨(nf_nrm b).valid, (nf_nrm b).cln⟩
/-- Format's result is in normal form, and has the components in normal form. -/
theorem fmt_law {l : List Pr} (h : (fmt l).2 = 0) : chkL l = 0 ∧ fmt l = (joinL l, 0) ∧ prs (joinL l) = (l.map nrm, 0) ∧ fmt (l.map nrm) = (joinL l, 0) ∧ valid (joinL l) = true := by
  have hc : chkL l = 0 := by
    unfold fmt at h
    split at h
    · next h1 => exact absurd h h1
    · next h1 => simpa using h1
  refine ⟨hc, by rw [fmt, if_neg (by simp [hc])], prs_join hc, ?_, ?_⟩
  · rw [(nf_nrm hc).fmt, join_nrm]
  · rw [← join_nrm]; exact (nf_nrm hc).valid

/-- The components of a name, none where it is not valid. -/
def cps (s : List UInt8) : List Pr := if valid s then (prs s).1 else []
theorem cps_of {s : List UInt8} (h : valid s = true) : cps s = (prs s).1 ∧ Nf (cps s) ∧ joinL (cps s) = s := by
  have := valid_iff.1 h
  unfold cps
  rw [if_pos h]
  exact ⟨rfl, this.1, this.2.2⟩
theorem cps_no {s : List UInt8} (h : valid s = false) : cps s = [] := by unfold cps; rw [if_neg (by simp [h])]
theorem cps_nf (s : List UInt8) : Nf (cps s) := by
  cases h : valid s
  · rw [cps_no h]; exact Nf.nil
  · exact (cps_of h).2.1
theorem cps_join {l : List Pr} (h : Nf l) : cps (joinL l) = l := by rw [(cps_of h.valid).1, h.prs]
theorem valid_nil : valid [] = true := rfl
theorem cps_nil : cps [] = [] := rfl
theorem cps_inj {a b : List UInt8} (ha : valid a = true) (hb : valid b = true) (h : cps a = cps b) : a = b := by
  rw [← (cps_of ha).2.2, ← (cps_of hb).2.2, h]
/-- Under. -/
def und (a b : List UInt8) : Bool := valid a && valid b && decide (cps b <:+ cps a)
theorem und_iff {a b : List UInt8} : und a b = true ↔ valid a = true ∧ valid b = true ∧ cps b <:+ cps a := by simp [und, and_assoc]
theorem und_refl (a : List UInt8) : und a a = valid a := by simp [und]
theorem und_nil (a : List UInt8) : und a [] = valid a := by simp [und, valid_nil, cps_nil]
theorem und_trans {a b c : List UInt8} (h1 : und a b = true) (h2 : und b c = true) : und a c = true := by
  obtain ⟨a1, a2, a3⟩ := und_iff.1 h1
  obtain ⟨b1, b2, b3⟩ := und_iff.1 h2
  exact und_iff.2 ⟨a1, b2, b3.trans a3⟩
theorem und_anti {a b : List UInt8} (h1 : und a b = true) (h2 : und b a = true) : a = b := by
  obtain ⟨a1, a2, a3⟩ := und_iff.1 h1
  obtain ⟨b1, b2, b3⟩ := und_iff.1 h2
  exact cps_inj a1 a2 (b3.eq_of_length (Nat.le_antisymm b3.length_le a3.length_le))
/-- The reference's way to say that some components are the last ones. -/
theorem suf_fmt {l : List Pr} {b : List UInt8} (hl : Nf l) (hb : valid b = true) :
    (fmt (l.drop (l.length - (cps b).length))).1 = b ↔ cps b <:+ l := by
  have hs : Nf (l.drop (l.length - (cps b).length)) := hl.sub (fun p hp => List.mem_of_mem_drop hp) (by have := hl.len; rw [List.length_drop]; omega)
  rw [hs.fmt]
  constructor
  · intro e
    have h2 : cps b = l.drop (l.length - (cps b).length) := by
      rw [← cps_join hs]
      simp only at e
      rw [e]
    rw [h2]
    exact List.drop_suffix _ _
  · rintro ⟨c, e⟩
    have e2 : l.drop (l.length - (cps b).length) = cps b := by
      rw [← e]
      simp
    rw [e2]
    exact (cps_of hb).2.2
theorem suf_drop {l m : List Pr} : m <:+ l ↔ m.length ≤ l.length ∧ l.drop (l.length - m.length) = m := by
  constructor
  · rintro ⟨c, rfl⟩
    simp
  · rintro ⟨h1, h2⟩
    rw [← h2]
    exact List.drop_suffix _ _

/-- Parent. -/
def par (s : List UInt8) : List UInt8 × Bool := if valid s = true ∧ cps s ≠ [] then (joinL (cps s).tail, true) else ([], false)
theorem nf_tail {l : List Pr} (h : Nf l) : Nf l.tail := h.sub (fun p hp => List.mem_of_mem_tail hp) (by have := h.len; simp; omega)
theorem par_und {s : List UInt8} (h : (par s).2 = true) : und s (par s).1 = true := by
  unfold par at h ⊢
  split at h
  · next h1 =>
    rw [if_pos h1]
    have ht := nf_tail (cps_nf s)
    exact und_iff.2 ⟨h1.1, ht.valid, by rw [cps_join ht]; exact List.tail_suffix _⟩
  · simp at h
/-- Child. -/
def chi (s : List UInt8) (p : Pr) : List UInt8 × Int := if valid s = false then ([], 4) else fmt (p :: cps s)
theorem chi_law {s : List UInt8} {p : Pr} (h : (chi s p).2 = 0) : valid s = true ∧ (par (chi s p).1) = (s, true) ∧ valid (chi s p).1 = true ∧ (cps (chi s p).1).length = (cps s).length + 1 ∧ und (chi s p).1 s = true ∧ und s (chi s p).1 = false := by
  unfold chi at h ⊢
  cases hv : valid s
  · rw [hv] at h; simp at h
  · rw [hv] at h
    rw [if_neg (by simp)] at h ⊢
    obtain ⟨a, b, c, d, e⟩ := fmt_law h
    have hl : (p :: cps s).map nrm = nrm p :: cps s := by rw [List.map_cons, (cps_nf s).2]
    have hn : Nf (nrm p :: cps s) := by rw [← hl]; exact nf_nrm a
    have hj : joinL (p :: cps s) = joinL (nrm p :: cps s) := by rw [← hl, join_nrm]
    rw [b]
    simp only
    rw [hj]
    have hc := cps_join hn
    refine ⟨trivial, ?_, hn.valid, by rw [hc]; rfl, ?_, ?_⟩
    · unfold par
      rw [hc, if_pos ⟨hn.valid, by simp⟩]
      simp only [List.tail_cons]
      rw [(cps_of hv).2.2]
    · exact und_iff.2 ⟨hn.valid, hv, by rw [hc]; exact List.suffix_cons _ _⟩
    · unfold und
      rw [hc]
      have : ¬ (nrm p :: cps s <:+ cps s) := fun h => by
        have := h.length_le
        simp at this
        omega
      simp [this]

/-- Rebase. -/
def reb (s f t : List UInt8) : List UInt8 × Int :=
  if valid s = false ∨ valid f = false ∨ valid t = false then ([], 4)
  else if ¬ (cps f <:+ cps s) then ([], 6)
  else fmt ((cps s).take ((cps s).length - (cps f).length) ++ cps t)
theorem reb_law {s f t : List UInt8} (h : (reb s f t).2 = 0) : reb (reb s f t).1 t f = (s, 0) ∧ und (reb s f t).1 t = true := by
  unfold reb at h
  split at h
  · simp at h
  · next h1 =>
    split at h
    · simp at h
    · next h2 =>
      have hs : valid s = true ∧ valid f = true ∧ valid t = true := by
        refine ⟨?_, ?_, ?_⟩ <;> (cases hx : valid _ <;> simp_all)
      have h3 : cps f <:+ cps s := by simpa using h2
      obtain ⟨a, b, c, d, e⟩ := fmt_law h
      have hn : Nf ((cps s).take ((cps s).length - (cps f).length) ++ cps t) := nf_mem.2 ⟨fun p hp => by
        rcases List.mem_append.1 hp with hp | hp
        · exact (nf_mem.1 (cps_nf s)).1 p (List.mem_of_mem_take hp)
        · exact (nf_mem.1 (cps_nf t)).1 p hp, (chkL_ok.1 a).2⟩
      have e1 : reb s f t = (joinL ((cps s).take ((cps s).length - (cps f).length) ++ cps t), 0) := by
        unfold reb
        rw [if_neg h1, if_neg h2]
        exact b
      rw [e1]
      simp only
      have hc := cps_join hn
      obtain ⟨h4, h5⟩ := suf_drop.1 h3
      refine ⟨?_, und_iff.2 ⟨hn.valid, hs.2.2, by rw [hc]; exact List.suffix_append _ _⟩⟩
      unfold reb
      rw [hc, hn.valid, hs.2.1, hs.2.2, if_neg (by simp), if_neg (by simp)]
      have e2 : ((cps s).take ((cps s).length - (cps f).length) ++ cps t).take (((cps s).take ((cps s).length - (cps f).length) ++ cps t).length - (cps t).length) ++ cps f = cps s := by
        rw [List.length_append, Nat.add_sub_cancel, List.take_left, ← h5]
        rw [h5]
        conv => lhs; rhs; rw [← h5]
        exact List.take_append_drop _ _
      rw [e2, (cps_nf s).fmt, (cps_of hs.1).2.2]

/-- The order of two components. -/
def cmpP (p q : Pr) : Int := if ordS p.1 q.1 ≠ 0 then ordS p.1 q.1 else ordS p.2 q.2
/-- The order of two lists of components, the greatest part first. -/
def cmpR : List Pr → List Pr → Int
  | [], [] => 0
  | [], _ :: _ => -1
  | _ :: _, [] => 1
  | p :: a, q :: b => if cmpP p q ≠ 0 then cmpP p q else cmpR a b
theorem cmpP_range (p q : Pr) : -1 ≤ cmpP p q ∧ cmpP p q ≤ 1 := by unfold cmpP; split <;> exact ordS_range _ _
theorem cmpP_zero (p q : Pr) : cmpP p q = 0 ↔ p = q := by
  unfold cmpP
  by_cases h : ordS p.1 q.1 = 0
  · simp only [h, ne_eq, not_true, if_false]
    rw [ordS_zero] at h ⊢
    exact ⟨fun h2 => Prod.ext h h2, fun h2 => by rw [h2]⟩
  · rw [if_pos h]
    exact ⟨fun h2 => absurd h2 h, fun h2 => by rw [h2, ordS_zero]⟩
theorem cmpP_neg (p q : Pr) : cmpP q p = - cmpP p q := by
  unfold cmpP
  rw [ordS_neg p.1 q.1, ordS_neg p.2 q.2]
  by_cases h : ordS p.1 q.1 = 0 <;> simp [h]
theorem cmpP_trans (p q r : Pr) (h1 : cmpP p q ≤ 0) (h2 : cmpP q r ≤ 0) : cmpP p r ≤ 0 ∧ (cmpP p r = 0 → cmpP p q = 0 ∧ cmpP q r = 0) := by
  have ha : ordS p.1 q.1 ≤ 0 := by
    by_cases h : ordS p.1 q.1 = 0
    · omega
    · unfold cmpP at h1; rw [if_pos h] at h1; exact h1
  have hb : ordS q.1 r.1 ≤ 0 := by
    by_cases h : ordS q.1 r.1 = 0
    · omega
    · unfold cmpP at h2; rw [if_pos h] at h2; exact h2
  have hc := ordS_trans p.1 q.1 r.1 ha hb
  by_cases h : ordS p.1 r.1 = 0
  · obtain ⟨h3, h4⟩ := hc.2 h
    unfold cmpP at h1 h2 ⊢
    rw [if_neg (by simp [h3])] at h1
    rw [if_neg (by simp [h4])] at h2
    rw [if_neg (by simp [h]), if_neg (by simp [h3]), if_neg (by simp [h4])]
    exact ordS_trans p.2 q.2 r.2 h1 h2
  · unfold cmpP
    rw [if_pos h]
    exact ⟨hc.1, fun h5 => absurd h5 h⟩
theorem cmpR_range (a b : List Pr) : -1 ≤ cmpR a b ∧ cmpR a b ≤ 1 := by
  induction a generalizing b with
  | nil => cases b <;> simp [cmpR]
  | cons p a ih =>
    cases b with
    | nil => simp [cmpR]
    | cons q b => unfold cmpR; split; exact cmpP_range p q; exact ih b
theorem cmpR_zero (a b : List Pr) : cmpR a b = 0 ↔ a = b := by
  induction a generalizing b with
  | nil => cases b <;> simp [cmpR]
  | cons p a ih =>
    cases b with
    | nil => simp [cmpR]
    | cons q b =>
      unfold cmpR
      by_cases h : cmpP p q = 0
      · rw [if_neg (by simp [h]), ih, (cmpP_zero p q).1 h]; simp
      · rw [if_pos h]
        refine ⟨fun h2 => absurd h2 h, fun h2 => ?_⟩
        rw [cmpP_zero]
        exact (List.cons.inj h2).1
theorem cmpR_neg (a b : List Pr) : cmpR b a = - cmpR a b := by
  induction a generalizing b with
  | nil => cases b <;> simp [cmpR]
  | cons p a ih =>
    cases b with
    | nil => simp [cmpR]
    | cons q b =>
      rw [cmpR, cmpR, cmpP_neg p q, ih b]
      by_cases h : cmpP p q = 0 <;> simp [h]
theorem cmpR_trans (a b c : List Pr) (h1 : cmpR a b ≤ 0) (h2 : cmpR b c ≤ 0) : cmpR a c ≤ 0 ∧ (cmpR a c = 0 → cmpR a b = 0 ∧ cmpR b c = 0) := by
  induction a generalizing b c with
  | nil =>
    cases c with
    | nil => cases b with
      | nil => simp [cmpR]
      | cons q b => simp [cmpR] at h2
    | cons r c => simp [cmpR]
  | cons p a ih =>
    cases b with
    | nil => simp [cmpR] at h1
    | cons q b =>
      cases c with
      | nil => simp [cmpR] at h2
      | cons r c =>
        have ha : cmpP p q ≤ 0 := by
          by_cases h : cmpP p q = 0
          · omega
          · unfold cmpR at h1; rw [if_pos h] at h1; exact h1
        have hb : cmpP q r ≤ 0 := by
          by_cases h : cmpP q r = 0
          · omega
          · unfold cmpR at h2; rw [if_pos h] at h2; exact h2
        have hc := cmpP_trans p q r ha hb
        by_cases h : cmpP p r = 0
        · obtain ⟨h3, h4⟩ := hc.2 h
          rw [cmpR, if_neg (by simp [h3])] at h1
          rw [cmpR, if_neg (by simp [h4])] at h2
          rw [cmpR, cmpR, cmpR, if_neg (by simp [h]), if_neg (by simp [h3]), if_neg (by simp [h4])]
          exact ih b c h1 h2
        · rw [cmpR, if_pos h]
          exact ⟨hc.1, fun h5 => absurd h5 h⟩
theorem cmpR_prefix {a b : List Pr} (h : a <+: b) (hne : a ≠ b) : cmpR a b = -1 := by
  induction a generalizing b with
  | nil => cases b with
    | nil => exact absurd rfl hne
    | cons q b => rfl
  | cons p a ih =>
    obtain ⟨c, rfl⟩ := h
    rw [List.cons_append, cmpR, if_neg (by simp [cmpP_zero])]
    exact ih (List.prefix_append _ _) (fun e => hne (by rw [List.cons_append, ← e]))
theorem cmpR_group {base a b c : List Pr} (ha : base <+: a) (hc : base <+: c) (h1 : cmpR a b ≤ 0) (h2 : cmpR b c ≤ 0) : base <+: b := by
  induction base generalizing a b c with
  | nil => exact List.nil_prefix
  | cons p base ih =>
    obtain ⟨a, rfl⟩ := ha
    obtain ⟨c, rfl⟩ := hc
    rw [List.cons_append] at h1 h2
    cases b with
    | nil => simp [cmpR] at h1
    | cons q b =>
      have ha : cmpP p q ≤ 0 := by
        by_cases h : cmpP p q = 0
        · omega
        · rw [cmpR, if_pos h] at h1; exact h1
      have hb : cmpP q p ≤ 0 := by
        by_cases h : cmpP q p = 0
        · omega
        · rw [cmpR, if_pos h] at h2; exact h2
      have h3 : cmpP p q = 0 := by have := cmpP_neg p q; omega
      have h4 := (cmpP_zero p q).1 h3
      subst h4
      rw [cmpR, if_neg (by simp [h3])] at h1 h2
      rw [List.prefix_cons_inj]
      exact ih (List.prefix_append _ _) (List.prefix_append _ _) h1 h2
/-- Compare. -/
def cmpN (a b : List UInt8) : Int :=
  if valid a = true then (if valid b = true then cmpR (cps a).reverse (cps b).reverse else -1)
  else if valid b = true then 1 else ordS a b
theorem cmpN_range (a b : List UInt8) : -1 ≤ cmpN a b ∧ cmpN a b ≤ 1 := by
  unfold cmpN
  split
  · split
    · exact cmpR_range _ _
    · omega
  · split
    · omega
    · exact ordS_range _ _
theorem cmpN_neg (a b : List UInt8) : cmpN b a = - cmpN a b := by
  unfold cmpN
  cases ha : valid a <;> cases hb : valid b <;> simp [cmpR_neg (cps a).reverse, ordS_neg a b]
theorem cmpN_zero (a b : List UInt8) : cmpN a b = 0 ↔ a = b := by
  unfold cmpN
  cases ha : valid a <;> cases hb : valid b
  · simp [ordS_zero]
  · simp; rintro rfl; simp [ha] at hb
  · simp; rintro rfl; simp [ha] at hb
  · simp only [if_true, cmpR_zero, List.reverse_inj]
    exact ⟨cps_inj ha hb, fun h => by rw [h]⟩
theorem cmpN_trans (a b c : List UInt8) (h1 : cmpN a b ≤ 0) (h2 : cmpN b c ≤ 0) : cmpN a c ≤ 0 := by
  unfold cmpN at *
  cases ha : valid a <;> cases hb : valid b <;> cases hc : valid c <;> simp [ha, hb, hc] at h1 h2 ⊢
  · exact (ordS_trans a b c h1 h2).1
  · exact (cmpR_trans _ _ _ h1 h2).1
theorem cmpN_und {a b : List UInt8} (h : und b a = true) (hne : a ≠ b) : cmpN a b = -1 := by
  obtain ⟨h1, h2, h3⟩ := und_iff.1 h
  unfold cmpN
  rw [if_pos h2, if_pos h1]
  exact cmpR_prefix (List.reverse_prefix.2 h3) fun e => hne (cps_inj h2 h1 (List.reverse_inj.1 e))
theorem cmpN_group {a b c base : List UInt8} (ha : und a base = true) (hc : und c base = true) (hb : valid b = true) (h1 : cmpN a b ≤ 0) (h2 : cmpN b c ≤ 0) : und b base = true := by
  obtain ⟨a1, a2, a3⟩ := und_iff.1 ha
  obtain ⟨c1, c2, c3⟩ := und_iff.1 hc
  unfold cmpN at h1 h2
  rw [if_pos a1, if_pos hb] at h1
  rw [if_pos hb, if_pos c1] at h2
  exact und_iff.2 ⟨hb, a2, List.reverse_prefix.1 (cmpR_group (List.reverse_prefix.2 a3) (List.reverse_prefix.2 c3) h1 h2)⟩
end Go.Proofs.YtjjcbbckihjapaaDoor.Na
