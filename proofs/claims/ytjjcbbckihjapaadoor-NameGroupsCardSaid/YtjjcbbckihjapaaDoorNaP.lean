/-
  The plain functions of layer 5 (name): what both texts compute; writing and reading back. No walk.
-/
import Derived.Test.YtjjcbbckihjapaaDoorFoQ
namespace Go.Proofs.YtjjcbbckihjapaaDoor.Na
open Go.Proofs.YtjjcbbckihjapaaDoor.Fo

/-- A byte that is escaped in values. -/
def spB (c : UInt8) : Bool := decide (c.toNat = 44 ∨ c.toNat = 61 ∨ c.toNat = 43 ∨ c.toNat = 92)
/-- The place of the first c that is not escaped, or the length. -/
def nxt (c : UInt8) : List UInt8 → Nat
  | [] => 0
  | [x] => if x = c then 0 else 1
  | x :: y :: r => if x = c then 0 else if x = 92 then 2 + nxt c r else 1 + nxt c (y :: r)
/-- The pieces between commas that are not escaped. -/
def pcsN : Nat → List UInt8 → List (List UInt8)
  | 0, s => [s]
  | n + 1, s => if nxt 44 s < s.length then s.take (nxt 44 s) :: pcsN n (s.drop (nxt 44 s + 1)) else [s]
def pcs (s : List UInt8) : List (List UInt8) := pcsN s.length s
/-- The value that an escaped text describes. -/
def valF : List UInt8 → Option (List UInt8)
  | [] => some []
  | [x] => if spB x then none else some [x]
  | x :: y :: r => if x = 92 then (if spB y then (valF r).map (y :: ·) else none) else if spB x then none else (valF (y :: r)).map (x :: ·)
abbrev Pr := List UInt8 × List UInt8
/-- A component and its error. -/
def compC (s : List UInt8) : Pr × Int :=
  if nxt 61 s < s.length then
    match valF (trimL (s.drop (nxt 61 s + 1))) with
    | none => (([], []), 4)
    | some v => if namL (trimL (s.take (nxt 61 s))) = false then (([], []), 5) else if clnL v = false then (([], []), 8) else ((trimL (s.take (nxt 61 s)), v), 0)
  else (([], []), 4)
/-- Parse, some pieces done. -/
def prsL : List (List UInt8) → List Pr → List Pr × Int
  | [], acc => if 8 < acc.length then ([], 3) else (acc, 0)
  | x :: r, acc => if (compC x).2 ≠ 0 then ([], (compC x).2) else prsL r (acc ++ [(compC x).1])
/-- Parse. -/
def prs (s : List UInt8) : List Pr × Int := if s = [] then ([], 0) else prsL (pcs s) []
/-- The first error of components. -/
def chkF : List Pr → Int
  | [] => 0
  | p :: r => if namL p.1 = false then 5 else if clnL p.2 = false then 8 else chkF r
def chkL (l : List Pr) : Int := if chkF l ≠ 0 then chkF l else if 8 < l.length then 3 else 0
/-- A value, escaped. -/
def escL : List UInt8 → List UInt8
  | [] => []
  | c :: r => if spB c then 92 :: c :: escL r else c :: escL r
/-- A component in normal form. -/
def comL (p : Pr) : List UInt8 := lowL p.1 ++ (61 :: escL (foldL p.2))
/-- The components, with what stands before them. -/
def tailL : List Pr → List UInt8
  | [] => []
  | p :: r => 44 :: (comL p ++ tailL r)
def joinL : List Pr → List UInt8
  | [] => []
  | p :: r => comL p ++ tailL r
/-- Format. -/
def fmt (l : List Pr) : List UInt8 × Int := if chkL l ≠ 0 then ([], chkL l) else (joinL l, 0)
/-- Clean. -/
def cln (s : List UInt8) : List UInt8 × Int := if (prs s).2 ≠ 0 then ([], (prs s).2) else fmt (prs s).1
/-- Valid. -/
def valid (s : List UInt8) : Bool := decide ((cln s).2 = 0 ∧ (cln s).1 = s)
/-- A component's own normal form. -/
def nrm (p : Pr) : Pr := (lowL p.1, foldL p.2)

theorem nxt_le (c : UInt8) (s : List UInt8) : nxt c s ≤ s.length := by
  fun_induction nxt c s <;> simp_all <;> omega
theorem nxt_at (c : UInt8) (r : List UInt8) : nxt c (c :: r) = 0 := by
  cases r <;> simp [nxt]
theorem nxt_plain (c x : UInt8) (r : List UInt8) (h : x ≠ c) (h2 : x ≠ 92) : nxt c (x :: r) = 1 + nxt c r := by
  cases r with
  | nil => simp [nxt, h]
  | cons y r => simp [nxt, h, h2]
theorem nxt_esc (c y : UInt8) (r : List UInt8) (h : (92 : UInt8) ≠ c) : nxt c (92 :: y :: r) = 2 + nxt c r := by
  simp [nxt, h]
theorem nxt_esc0 (c : UInt8) (h : (92 : UInt8) ≠ c) : nxt c [92] = 1 := by simp [nxt, h]

/-- Nothing is left open in a text: c does not stand unescaped, and the last byte escapes nothing. -/
def Clo (c : UInt8) (a : List UInt8) : Prop := ∀ b, nxt c (a ++ b) = a.length + nxt c b
theorem Clo.nil (c : UInt8) : Clo c [] := fun b => by simp
theorem Clo.append {c : UInt8} {a b : List UInt8} (ha : Clo c a) (hb : Clo c b) : Clo c (a ++ b) := fun d => by
  rw [List.append_assoc, ha, hb, List.length_append]; omega
theorem Clo.plain {c x : UInt8} {a : List UInt8} (h : x ≠ c) (h2 : x ≠ 92) (ha : Clo c a) : Clo c (x :: a) := fun d => by
  rw [List.cons_append, nxt_plain c x _ h h2, ha, List.length_cons]; omega
theorem Clo.esc {c y : UInt8} {a : List UInt8} (h : (92 : UInt8) ≠ c) (ha : Clo c a) : Clo c (92 :: y :: a) := fun d => by
  rw [List.cons_append, List.cons_append, nxt_esc c y _ h, ha, List.length_cons, List.length_cons]; omega
theorem Clo.all {c : UInt8} {a : List UInt8} (h : ∀ x ∈ a, x ≠ c ∧ x ≠ 92) : Clo c a := by
  induction a with
  | nil => exact Clo.nil c
  | cons x r ih => exact Clo.plain (h x (by simp)).1 (h x (by simp)).2 (ih fun y hy => h y (by simp [hy]))
theorem Clo.stop {c : UInt8} {a : List UInt8} (ha : Clo c a) (b : List UInt8) : nxt c (a ++ c :: b) = a.length := by rw [ha, nxt_at]; rfl
theorem Clo.whole {c : UInt8} {a : List UInt8} (ha : Clo c a) : nxt c a = a.length := by
  have := ha []
  simpa [nxt] using this
theorem spB_ne {x : UInt8} (h : spB x = false) : x ≠ 44 ∧ x ≠ 61 ∧ x ≠ 43 ∧ x ≠ 92 := by
  refine ⟨?_, ?_, ?_, ?_⟩ <;> (rintro rfl; revert h; decide)
theorem Clo.escL44 (v : List UInt8) : Clo 44 (escL v) := by
  induction v with
  | nil => exact Clo.nil _
  | cons x r ih =>
    unfold escL
    split
    · exact Clo.esc (by decide) ih
    · next h => exact Clo.plain (spB_ne (by simpa using h)).1 (spB_ne (by simpa using h)).2.2.2 ih

theorem pcsN_fuel (n m : Nat) (s : List UInt8) (h1 : s.length ≤ n) (h2 : s.length ≤ m) : pcsN n s = pcsN m s := by
  induction n generalizing m s with
  | zero =>
    have : s = [] := List.eq_nil_of_length_eq_zero (by omega)
    subst this
    cases m <;> simp [pcsN, nxt]
  | succ n ih =>
    cases m with
    | zero =>
      have : s = [] := List.eq_nil_of_length_eq_zero (by omega)
      subst this
      simp [pcsN, nxt]
    | succ m =>
      unfold pcsN
      split
      · rw [ih m _ (by rw [List.length_drop]; omega) (by rw [List.length_drop]; omega)]
      · rfl
theorem pcs_yes {s : List UInt8} (h : nxt 44 s < s.length) : pcs s = s.take (nxt 44 s) :: pcs (s.drop (nxt 44 s + 1)) := by
  unfold pcs
  obtain ⟨n, hn⟩ : ∃ n, s.length = n + 1 := ⟨s.length - 1, by omega⟩
  rw [hn, pcsN, if_pos h, pcsN_fuel n (s.drop (nxt 44 s + 1)).length _ (by rw [List.length_drop]; omega) (Nat.le_refl _)]
theorem pcs_no {s : List UInt8} (h : ¬ nxt 44 s < s.length) : pcs s = [s] := by
  unfold pcs
  cases hs : s.length with
  | zero => rfl
  | succ n => rw [pcsN, if_neg h]
theorem pcs_one {a : List UInt8} (h : Clo 44 a) : pcs a = [a] := pcs_no (by rw [h.whole]; omega)
theorem pcs_cons {a : List UInt8} (h : Clo 44 a) (b : List UInt8) : pcs (a ++ 44 :: b) = a :: pcs b := by
  have h1 := h.stop b
  rw [pcs_yes (by rw [h1]; simp), h1]
  simp

theorem nmB_ne {x : UInt8} (h : nmB x = true) : x ≠ 44 ∧ x ≠ 61 ∧ x ≠ 43 ∧ x ≠ 92 := by
  refine ⟨?_, ?_, ?_, ?_⟩ <;> (rintro rfl; revert h; decide)
theorem nmB_low (c : UInt8) : nmB (lowB c) = nmB c := by
  have h : ∀ c : Fin 256, nmB (lowB (UInt8.ofNat c.1)) = nmB (UInt8.ofNat c.1) := by decide +kernel
  have := h ⟨c.toNat, c.toNat_lt⟩
  simpa using this
theorem letB_low (c : UInt8) : letB (lowB c) = letB c := by
  have h : ∀ c : Fin 256, letB (lowB (UInt8.ofNat c.1)) = letB (UInt8.ofNat c.1) := by decide +kernel
  have := h ⟨c.toNat, c.toNat_lt⟩
  simpa using this
theorem okB_low' (c : UInt8) : okB (lowB c) = okB c := by
  have h : ∀ c : Fin 256, okB (lowB (UInt8.ofNat c.1)) = okB (UInt8.ofNat c.1) := by decide +kernel
  have := h ⟨c.toNat, c.toNat_lt⟩
  simpa using this
theorem spB_low (c : UInt8) : spB (lowB c) = spB c := by
  have h : ∀ c : Fin 256, spB (lowB (UInt8.ofNat c.1)) = spB (UInt8.ofNat c.1) := by decide +kernel
  have := h ⟨c.toNat, c.toNat_lt⟩
  simpa using this
theorem low_eq (c d : UInt8) (hd : d = 44 ∨ d = 61 ∨ d = 92) : lowB c = d ↔ c = d := by
  have h : ∀ c : Fin 256, (lowB (UInt8.ofNat c.1) = 44 ↔ UInt8.ofNat c.1 = 44) ∧ (lowB (UInt8.ofNat c.1) = 61 ↔ UInt8.ofNat c.1 = 61) ∧ (lowB (UInt8.ofNat c.1) = 92 ↔ UInt8.ofNat c.1 = 92) := by decide +kernel
  have := h ⟨c.toNat, c.toNat_lt⟩
  simp only [UInt8.ofNat_toNat] at this
  rcases hd with rfl | rfl | rfl
  · exact this.1
  · exact this.2.1
  · exact this.2.2
theorem all_low (p : UInt8 → Bool) (h : ∀ c, p (lowB c) = p c) (l : List UInt8) : (lowL l).all p = l.all p := by
  induction l with
  | nil => rfl
  | cons x r ih => rw [show lowL (x :: r) = lowB x :: lowL r from rfl, List.all_cons, List.all_cons, h, ih]
theorem lowL_len (l : List UInt8) : (lowL l).length = l.length := by simp [lowL]
theorem lowL_inj {l m : List UInt8} (h : l.length = m.length) (hk : ∀ i, i < l.length → l[i]? = m[i]?) : l = m := List.ext_getElem? fun i => by
  rcases Nat.lt_or_ge i l.length with hi | hi
  · exact hk i hi
  · rw [List.getElem?_eq_none hi, List.getElem?_eq_none (by omega)]
theorem namL_low (l : List UInt8) : namL (lowL l) = namL l := by
  unfold namL madeL
  rw [all_low _ nmB_low, lowL_len]
  cases l with
  | nil => rfl
  | cons x r => rw [show bAt (lowL (x :: r)) 0 = lowB (bAt (x :: r) 0) from rfl, letB_low]
/-- Trimming keeps the length alike. -/
theorem trim_low_iff (l : List UInt8) : trimL (lowL l) = lowL l ↔ trimL l = l := by
  rw [trim_low]
  constructor
  · intro h
    have h1 : (trimL l).length = l.length := by
      have := congrArg List.length h
      simpa [lowL_len] using this
    have hs : trimL l <:+: l := by
      unfold trimL Lib.trimB Lib.trimLeftB Lib.trimRightB
      refine (List.dropWhile_suffix _).isInfix.trans ?_
      have := (List.dropWhile_suffix (l := l.reverse) (fun x : UInt8 => x == 32))
      exact (List.reverse_prefix.2 this |>.isInfix) |> fun h => by simpa using h
    exact hs.eq_of_length h1
  · intro h; rw [h]
theorem clnL_low (l : List UInt8) : clnL (lowL l) = clnL l := by
  unfold clnL
  rw [all_low _ okB_low', lowL_len]
  congr 1
  rw [decide_eq_decide]
  exact trim_low_iff l

theorem valF_plain {x : UInt8} (h : spB x = false) (r : List UInt8) : valF (x :: r) = (valF r).map (x :: ·) := by
  cases r with
  | nil => simp [valF, h]
  | cons y r => simp [valF, h, (spB_ne h).2.2.2]
theorem valF_esc {y : UInt8} (h : spB y = true) (r : List UInt8) : valF (92 :: y :: r) = (valF r).map (y :: ·) := by
  simp [valF, h]
theorem valF_escL (v : List UInt8) : valF (escL v) = some v := by
  induction v with
  | nil => rfl
  | cons x r ih =>
    unfold escL
    split
    · next h => rw [valF_esc h, ih]; rfl
    · next h => rw [valF_plain (by simpa using h), ih]; rfl
theorem escL_len (v : List UInt8) : v.length ≤ (escL v).length := by
  induction v with
  | nil => exact Nat.le_refl _
  | cons x r ih => unfold escL; split <;> simp <;> omega
theorem escL_head (v : List UInt8) (h : 0 < v.length) : bAt (escL v) 0 = 92 ∨ bAt (escL v) 0 = bAt v 0 := by
  cases v with
  | nil => simp at h
  | cons x r => unfold escL; split <;> simp [bAt]
theorem escL_append (a b : List UInt8) : escL (a ++ b) = escL a ++ escL b := by
  induction a with
  | nil => rfl
  | cons x r ih => rw [List.cons_append, escL, escL]; split <;> simp [ih]
theorem escL_last (v : List UInt8) (h : 0 < v.length) : bAt (escL v) ((escL v).length - 1) = bAt v (v.length - 1) := by
  obtain ⟨a, x, rfl⟩ : ∃ a x, v = a ++ [x] := ⟨v.dropLast, v.getLast (by intro e; subst e; simp at h), (List.dropLast_concat_getLast _).symm⟩
  rw [escL_append]
  have e : escL [x] = [x] ∨ escL [x] = [92, x] := by simp only [escL]; split <;> simp
  unfold bAt
  rcases e with e | e <;> rw [e] <;> simp [List.getD]
theorem trim_esc {v : List UInt8} (h : trimL v = v) : trimL (escL v) = escL v := by
  rcases Nat.eq_zero_or_pos v.length with h0 | h0
  · have : v = [] := List.eq_nil_of_length_eq_zero h0
    subst this
    rfl
  · refine trim_fix (fun _ => ?_) (fun _ => ?_)
    · have h1 := trimL_head v (by rw [h]; exact h0)
      rw [h] at h1
      rcases escL_head v h0 with e | e <;> rw [e]
      · decide
      · exact h1
    · have h1 := trimL_last v (by rw [h]; exact h0)
      rw [h] at h1
      rw [escL_last v h0]
      exact h1

theorem nam_trim {k : List UInt8} (h : namL k = true) : trimL k = k := by
  have := word_clean (name_word h)
  simp only [clnL, Bool.and_eq_true, decide_eq_true_eq] at this
  exact this.2
theorem nam_clo {k : List UInt8} (c : UInt8) (hc : c = 44 ∨ c = 61) (h : namL k = true) : Clo c k := by
  refine Clo.all fun x hx => ?_
  simp only [namL, madeL, Bool.and_eq_true] at h
  have h1 := nmB_ne (List.all_eq_true.1 h.1.1 x hx)
  rcases hc with rfl | rfl
  · exact ⟨h1.1, h1.2.2.2⟩
  · exact ⟨h1.2.1, h1.2.2.2⟩
theorem comL_clo {p : Pr} (h : namL p.1 = true) : Clo 44 (comL p) :=
  (nam_clo 44 (Or.inl rfl) (by rw [namL_low]; exact h)).append (Clo.plain (by decide) (by decide) (Clo.escL44 _))
theorem compC_comL {p : Pr} (h1 : namL p.1 = true) (h2 : clnL p.2 = true) : compC (comL p) = (nrm p, 0) := by
  have hn : namL (lowL p.1) = true := by rw [namL_low]; exact h1
  have hx : nxt 61 (comL p) = (lowL p.1).length := (nam_clo 61 (Or.inr rfl) hn).stop _
  have hd : (comL p).drop ((lowL p.1).length + 1) = escL (foldL p.2) := by
    unfold comL
    rw [List.drop_append]; simp
  have ht : (comL p).take (lowL p.1).length = lowL p.1 := by unfold comL; simp
  unfold compC
  rw [hx, if_pos (by unfold comL; simp), hd, ht, trim_esc (fold_parts p.2).2.1, valF_escL, nam_trim hn, hn]
  simp only
  rw [clean_fold h2]
  rfl

theorem chkF_cons {p : Pr} {r : List Pr} (h : chkF (p :: r) = 0) : namL p.1 = true ∧ clnL p.2 = true ∧ chkF r = 0 := by
  unfold chkF at h
  cases h1 : namL p.1
  · simp [h1] at h
  · cases h2 : clnL p.2
    · simp [h1, h2] at h
    · simp [h1, h2] at h
      exact ⟨rfl, rfl, h⟩
theorem chkF_mk {p : Pr} {r : List Pr} (h1 : namL p.1 = true) (h2 : clnL p.2 = true) : chkF (p :: r) = chkF r := by
  rw [chkF, if_neg (by simp [h1]), if_neg (by simp [h2])]
theorem chkF_mem {l : List Pr} : chkF l = 0 ↔ ∀ p ∈ l, namL p.1 = true ∧ clnL p.2 = true := by
  induction l with
  | nil => simp [chkF]
  | cons p r ih =>
    constructor
    · intro h q hq
      obtain ⟨h1, h2, h3⟩ := chkF_cons h
      rcases List.mem_cons.1 hq with rfl | hq
      · exact ⟨h1, h2⟩
      · exact ih.1 h3 q hq
    · intro h
      obtain ⟨h1, h2⟩ := h p (by simp)
      rw [chkF_mk h1 h2]
      exact ih.2 fun q hq => h q (by simp [hq])
theorem chkL_ok {l : List Pr} : chkL l = 0 ↔ chkF l = 0 ∧ l.length ≤ 8 := by
  unfold chkL
  split
  · next h => simp [h]
  · next h =>
    split
    · next h2 => constructor
                 · intro h3; omega
                 · intro h3; omega
    · next h2 => exact ⟨fun _ => ⟨by simpa using h, by omega⟩, fun _ => rfl⟩
theorem pcs_join {l : List Pr} (h : chkF l = 0) (p : Pr) (h1 : namL p.1 = true) : pcs (comL p ++ tailL l) = comL p :: l.map comL := by
  induction l generalizing p with
  | nil => simpa [tailL] using pcs_one (comL_clo h1)
  | cons q r ih =>
    obtain ⟨a, b, c⟩ := chkF_cons h
    rw [tailL, pcs_cons (comL_clo h1), ih c q a]
    rfl
theorem prsL_join {l acc : List Pr} (h : chkF l = 0) : prsL (l.map comL) acc = if 8 < acc.length + l.length then ([], 3) else (acc ++ l.map nrm, 0) := by
  induction l generalizing acc with
  | nil => simp [prsL]
  | cons q r ih =>
    obtain ⟨a, b, c⟩ := chkF_cons h
    rw [List.map_cons, prsL, compC_comL a b, if_neg (by simp), ih c]
    simp only [List.length_append, List.length_cons, List.length_nil, List.map_cons, List.append_assoc, List.cons_append, List.nil_append]
    rw [show acc.length + (0 + 1) + r.length = acc.length + (r.length + 1) by omega]
theorem comL_ne (p : Pr) : comL p ≠ [] := by unfold comL; simp
/-- Reading back what was written. -/
theorem prs_join {l : List Pr} (h : chkL l = 0) : prs (joinL l) = (l.map nrm, 0) := by
  obtain ⟨h1, h2⟩ := chkL_ok.1 h
  cases l with
  | nil => rfl
  | cons p r =>
    unfold prs joinL
    obtain ⟨a, b, c⟩ := chkF_cons h1
    rw [if_neg (by simp [comL_ne]), pcs_join c p a, show comL p :: r.map comL = (p :: r).map comL from rfl, prsL_join h1, if_neg (by simp at h2 ⊢; omega)]
    rfl
theorem nrm_nrm (p : Pr) : nrm (nrm p) = nrm p := by simp [nrm, lowL_idem, fold_idem]
theorem comL_nrm (p : Pr) : comL (nrm p) = comL p := by simp [comL, nrm, lowL_idem, fold_idem]
theorem tail_nrm (l : List Pr) : tailL (l.map nrm) = tailL l := by
  induction l with
  | nil => rfl
  | cons p r ih => rw [List.map_cons, tailL, tailL, comL_nrm, ih]
theorem join_nrm (l : List Pr) : joinL (l.map nrm) = joinL l := by
  cases l with
  | nil => rfl
  | cons p r => rw [List.map_cons, joinL, joinL, comL_nrm, tail_nrm]
theorem chk_nrm {l : List Pr} (h : chkL l = 0) : chkL (l.map nrm) = 0 := by
  obtain ⟨h1, h2⟩ := chkL_ok.1 h
  refine chkL_ok.2 ⟨chkF_mem.2 fun p hp => ?_, by simpa using h2⟩
  obtain ⟨q, hq, rfl⟩ := List.mem_map.1 hp
  obtain ⟨a, b⟩ := chkF_mem.1 h1 q hq
  exact ⟨by rw [nrm, namL_low]; exact a, clean_fold b⟩
theorem compC_ok {s : List UInt8} (h : (compC s).2 = 0) : namL (compC s).1.1 = true ∧ clnL (compC s).1.2 = true := by
  unfold compC at h ⊢
  split at h
  · next h0 =>
    rw [if_pos h0]
    split at h
    · next h1 => simp at h
    · next v h1 =>
      split at h
      · simp at h
      · next h2 =>
        split at h
        · simp at h
        · next h3 =>
          rw [if_neg h2, if_neg h3]
          exact ⟨by simpa using h2, by simpa using h3⟩
  · simp at h
theorem prsL_ok {l : List (List UInt8)} {acc : List Pr} (ha : chkF acc = 0) (h : (prsL l acc).2 = 0) : chkL (prsL l acc).1 = 0 ∧ (prsL l acc).1.length = acc.length + l.length := by
  induction l generalizing acc with
  | nil =>
    unfold prsL at h ⊢
    split at h
    · simp at h
    · next h1 => rw [if_neg h1]; exact ⟨chkL_ok.2 ⟨ha, Nat.le_of_not_lt h1⟩, by simp⟩
  | cons x r ih =>
    unfold prsL at h ⊢
    split at h
    · next h1 => exact absurd h h1
    · next h1 =>
      rw [if_neg h1]
      have h2 := compC_ok (s := x) (by simpa using h1)
      have h3 := ih (acc := acc ++ [(compC x).1]) (chkF_mem.2 fun p hp => by
        rcases List.mem_append.1 hp with hp | hp
        · exact chkF_mem.1 ha p hp
        · simp at hp; subst hp; exact h2) h
      exact ⟨h3.1, by rw [h3.2]; simp; omega⟩
theorem prs_ok {s : List UInt8} (h : (prs s).2 = 0) : chkL (prs s).1 = 0 := by
  unfold prs at h ⊢
  split at h
  · next h1 => rw [if_pos h1]; rfl
  · next h1 => rw [if_neg h1]; exact (prsL_ok rfl h).1

/-- Components as they stand in a name in normal form. -/
def Nf (l : List Pr) : Prop := chkL l = 0 ∧ l.map nrm = l
theorem Nf.nil : Nf [] := ⟨rfl, rfl⟩
theorem Nf.prs {l : List Pr} (h : Nf l) : Na.prs (joinL l) = (l, 0) := by rw [prs_join h.1, h.2]
theorem Nf.fmt {l : List Pr} (h : Nf l) : Na.fmt l = (joinL l, 0) := by rw [Na.fmt, if_neg (by simp [h.1])]
theorem Nf.cln {l : List Pr} (h : Nf l) : Na.cln (joinL l) = (joinL l, 0) := by
  unfold Na.cln
  rw [h.prs]
  simpa using h.fmt
theorem Nf.valid {l : List Pr} (h : Nf l) : Na.valid (joinL l) = true := by
  unfold Na.valid
  rw [h.cln]; simp
theorem Nf.inj {l m : List Pr} (h : Nf l) (h' : Nf m) (e : joinL l = joinL m) : l = m := by
  have := h.prs
  rw [e, h'.prs] at this
  exact (congrArg Prod.fst this).symm
theorem nf_nrm {l : List Pr} (h : chkL l = 0) : Nf (l.map nrm) := ⟨chk_nrm h, by simp [nrm_nrm]⟩
theorem nf_mem {l : List Pr} : Nf l ↔ (∀ p ∈ l, namL p.1 = true ∧ clnL p.2 = true ∧ nrm p = p) ∧ l.length ≤ 8 := by
  unfold Nf
  rw [chkL_ok, chkF_mem]
  constructor
  · rintro ⟨⟨h1, h2⟩, h3⟩
    refine ⟨fun p hp => ⟨(h1 p hp).1, (h1 p hp).2, ?_⟩, h2⟩
    have h4 : l.map nrm = l.map id := by rw [h3, List.map_id]
    exact (List.map_inj_left.1 h4) p hp
  · rintro ⟨h1, h2⟩
    refine ⟨⟨fun p hp => ⟨(h1 p hp).1, (h1 p hp).2.1⟩, h2⟩, ?_⟩
    conv => rhs; rw [← List.map_id l]
    exact List.map_congr_left fun p hp => (h1 p hp).2.2
theorem Nf.sub {l m : List Pr} (h : Nf l) (hs : ∀ p ∈ m, p ∈ l) (hl : m.length ≤ 8) : Nf m := nf_mem.2 ⟨fun p hp => (nf_mem.1 h).1 p (hs p hp), hl⟩
theorem Nf.len {l : List Pr} (h : Nf l) : l.length ≤ 8 := (nf_mem.1 h).2
theorem cln_ok {s : List UInt8} (h : (cln s).2 = 0) : (prs s).2 = 0 ∧ chkL (prs s).1 = 0 ∧ cln s = (joinL (prs s).1, 0) := by
  unfold cln at h ⊢
  split at h
  · next h1 => exact absurd h h1
  · next h1 =>
    have h2 := prs_ok (s := s) (by simpa using h1)
    rw [if_neg h1]
    exact ⟨by simpa using h1, h2, by rw [fmt, if_neg (by simp [h2])]⟩
theorem valid_iff {s : List UInt8} : valid s = true ↔ Nf (prs s).1 ∧ (prs s).2 = 0 ∧ joinL (prs s).1 = s := by
  constructor
  · intro h
    simp only [valid, decide_eq_true_eq] at h
    obtain ⟨h1, h2⟩ := h
    obtain ⟨a, b, c⟩ := cln_ok h1
    rw [c] at h2
    have h3 : prs s = ((prs s).1.map nrm, 0) := by
      have := prs_join b
      simp only at h2
      rwa [h2] at this
    refine ⟨⟨b, ?_⟩, a, h2⟩
    exact (congrArg Prod.fst h3).symm
  · rintro ⟨h1, _, h3⟩
    have := h1.valid
    rwa [h3] at this
theorem valid_of {l : List Pr} (h : Nf l) : valid (joinL l) = true ∧ (prs (joinL l)).1 = l := ⟨h.valid, by rw [h.prs]⟩
end Go.Proofs.YtjjcbbckihjapaaDoor.Na
