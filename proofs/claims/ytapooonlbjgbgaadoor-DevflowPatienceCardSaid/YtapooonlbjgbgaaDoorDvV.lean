/-
  Plain laws of user codes. No program.
-/
import Derived.Test.YtapooonlbjgbgaaDoorDvT2
namespace Go.Proofs.YtapooonlbjgbgaaDoor.Dv
open Go.RowKit Go.Proofs.YtapooonlbjgbgaaDoor.Fo Go.Proofs.YtapooonlbjgbgaaDoor.Rf

theorem con_facts (c : UInt8) (h : conB c = true) : c ≠ 32 ∧ c ≠ 45 ∧ lowB c ≠ 32 ∧ lowB c ≠ 45 ∧ capB c = c := by
  have key : ∀ n : Fin 256, conB (UInt8.ofNat n.1) = true → UInt8.ofNat n.1 ≠ 32 ∧ UInt8.ofNat n.1 ≠ 45 ∧ lowB (UInt8.ofNat n.1) ≠ 32 ∧ lowB (UInt8.ofNat n.1) ≠ 45 ∧ capB (UInt8.ofNat n.1) = UInt8.ofNat n.1 := by decide +kernel
  have := key ⟨c.toNat, c.toNat_lt⟩
  simp only [UInt8.ofNat_toNat] at this
  exact this h
theorem filt_all {l : List UInt8} {p : UInt8 → Bool} (h : ∀ c ∈ l, p c = true) : l.filter p = l := List.filter_eq_self.2 h
theorem typ_div {L : List UInt8} (hc : ∀ c ∈ L, conB c = true) : typL (divL L) = L := by
  unfold typL divL
  have h1 : ∀ l : List UInt8, (∀ c ∈ l, conB c = true) → (l.filter fun c => decide (c ≠ 32) && decide (c ≠ 45)).map capB = l := fun l hl => by
    rw [filt_all (fun c hc => by have := con_facts c (hl c hc); simp [this.1, this.2.1])]
    exact (List.map_congr_left (fun c hc => (con_facts c (hl c hc)).2.2.2.2)).trans (List.map_id' l)
  rw [List.filter_append, List.filter_append, List.map_append, List.map_append, h1 _ (fun c h => hc c (List.mem_of_mem_take h)), h1 _ (fun c h => hc c (List.mem_of_mem_drop h))]
  simp
theorem lw_div {L : List UInt8} (hc : ∀ c ∈ L, conB c = true) : lwL (divL L) = L.map lowB := by
  unfold lwL divL
  have h1 : ∀ l : List UInt8, (∀ c ∈ l, conB c = true) → (l.map lowB).filter (fun c => decide (c ≠ 45)) = l.map lowB := fun l hl => filt_all (fun c hcm => by
    obtain ⟨d, hd, rfl⟩ := List.mem_map.1 hcm
    have := con_facts d (hl d hd)
    simp [this.2.2.2.1])
  rw [List.map_append, List.map_append, List.filter_append, List.filter_append, h1 _ (fun c h => hc c (List.mem_of_mem_take h)), h1 _ (fun c h => hc c (List.mem_of_mem_drop h))]
  have : ([45] : List UInt8).map lowB = [45] := by decide
  rw [this]
  simp
theorem typ_low {L : List UInt8} (hc : ∀ c ∈ L, conB c = true) : typL (32 :: L.map lowB) = L := by
  unfold typL
  rw [List.filter_cons, if_neg (by decide), filt_all (fun c hcm => by
    obtain ⟨d, hd, rfl⟩ := List.mem_map.1 hcm
    have := con_facts d (hc d hd)
    simp [this.2.2.1, this.2.2.2.1]), List.map_map]
  refine (List.map_congr_left (fun c hcm => ?_)).trans (List.map_id _)
  show capB (lowB c) = c
  rw [capB_low, (con_facts c (hc c hcm)).2.2.2.2]
theorem ucD_con (m : Nat) : ∀ c ∈ ucD m, conB c = true := fun c hc => by
  unfold ucD at hc
  obtain ⟨j, hj, rfl⟩ := List.mem_map.1 hc
  have key : ∀ i : Fin 20, conB (conL.getD i.1 0) = true := by decide
  exact key ⟨m / 20 ^ (7 - j) % 20, Nat.mod_lt _ (by decide)⟩
theorem ucD_len (m : Nat) : (ucD m).length = 8 := by simp [ucD]
theorem ok_code {L : List UInt8} (h : L.length = 8) (hc : ∀ c ∈ L, conB c = true) : okL L = true := by
  unfold okL
  rw [h, List.all_eq_true.2 hc]
  rfl
theorem clean_code (n : Int) : cuC (ucC n) = (ucC n, 0) := by
  have h := typ_div (ucD_con (ucN n))
  have e : (ucC n).data.toList = divL (ucD (ucN n)) := by simp [ucC]
  rw [cuC_yes (by rw [e, h]; exact ok_code (ucD_len _) (ucD_con _)), e, h]
  rfl
theorem clean_low (n : Int) : cuC ((⟨#[32]⟩ : ByteArray) ++ ⟨(lwL (ucC n).data.toList).toArray⟩) = (ucC n, 0) := by
  have e : (ucC n).data.toList = divL (ucD (ucN n)) := by simp [ucC]
  rw [e, lw_div (ucD_con _), cons_bs]
  have h := typ_low (ucD_con (ucN n))
  have e2 : (⟨(32 :: (ucD (ucN n)).map lowB).toArray⟩ : ByteArray).data.toList = 32 :: (ucD (ucN n)).map lowB := by simp
  rw [cuC_yes (by rw [e2, h]; exact ok_code (ucD_len _) (ucD_con _)), e2, h]
  rfl
theorem code_size (n : Int) : (ucC n).size = 9 := by
  show (divL (ucD (ucN n))).toArray.size = 9
  simp [divL, ucD_len]
theorem con_inj {a b : Nat} (ha : a < 20) (hb : b < 20) (h : conL.getD a 0 = conL.getD b 0) : a = b := by
  have key : ∀ i j : Fin 20, conL.getD i.1 0 = conL.getD j.1 0 → i.1 = j.1 := by decide +kernel
  exact key ⟨a, ha⟩ ⟨b, hb⟩ h
theorem dig_inj {a b : Nat} (h : ucD a = ucD b) (j : Nat) (hj : j < 8) : a / 20 ^ j % 20 = b / 20 ^ j % 20 := by
  have e := congrArg (fun l : List UInt8 => l[7 - j]?) h
  simp only [ucD, List.getElem?_map, List.getElem?_range (show 7 - j < 8 by omega), Option.map_some, Option.some.injEq] at e
  rw [show 7 - (7 - j) = j by omega] at e
  exact con_inj (Nat.mod_lt _ (by decide)) (Nat.mod_lt _ (by decide)) e
theorem num_inj {a b : Nat} (ha : a < 25600000000) (hb : b < 25600000000) (h : ucD a = ucD b) : a = b := by
  have step : ∀ k, k ≤ 8 → a / 20 ^ (8 - k) = b / 20 ^ (8 - k) := by
    intro k
    induction k with
    | zero =>
      intro _
      rw [Nat.div_eq_of_lt (by simpa using ha), Nat.div_eq_of_lt (by simpa using hb)]
    | succ k ih =>
      intro hk
      have h1 := ih (by omega)
      have h2 := dig_inj h (8 - (k + 1)) (by omega)
      have e : 8 - k = (8 - (k + 1)) + 1 := by omega
      rw [e, Nat.pow_succ, ← Nat.div_div_eq_div_mul, ← Nat.div_div_eq_div_mul] at h1
      generalize a / 20 ^ (8 - (k + 1)) = x at *
      generalize b / 20 ^ (8 - (k + 1)) = y at *
      omega
  have := step 8 (Nat.le_refl _)
  simpa using this
theorem code_inj (n m : Int) : decide (ucC n = ucC m) = decide ((ucN n : Int) = (ucN m : Int)) := by
  rw [Bool.eq_iff_iff, decide_eq_true_eq, decide_eq_true_eq]
  constructor
  · intro h
    have h1 : divL (ucD (ucN n)) = divL (ucD (ucN m)) := by
      have := congrArg (fun x : ByteArray => x.data.toList) h
      simpa [ucC] using this
    have h2 := congrArg typL h1
    rw [typ_div (ucD_con _), typ_div (ucD_con _)] at h2
    rw [num_inj (ucN_lt n) (ucN_lt m) h2]
  · intro h
    have : ucN n = ucN m := by omega
    unfold ucC
    rw [this]
theorem cu_split (s : Bs) : (∃ t, cuC s = (t, 0) ∧ cuC t = (t, 0) ∧ t.size = 9) ∨ cuC s = (eB, 4) := by
  cases h : okL (typL s.data.toList) with
  | false => exact Or.inr (cuC_no h)
  | true =>
    have h0 := h
    unfold okL at h0
    simp only [Bool.and_eq_true, decide_eq_true_eq] at h0
    have hc : ∀ c ∈ typL s.data.toList, conB c = true := List.all_eq_true.1 h0.2
    refine Or.inl ⟨_, cuC_yes h, ?_, ?_⟩
    · have e := typ_div hc
      rw [cuC_yes (by rw [e]; exact h), e]
    · show (divL (typL s.data.toList)).toArray.size = 9
      simp [divL, h0.1]
end Go.Proofs.YtapooonlbjgbgaaDoor.Dv
