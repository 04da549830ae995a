/-
  The names that the statement RefreshLimits makes; what its calls leave behind.
-/
import Derived.Test.YtfeljihbaekfmaaRfL0
import Derived.KernelRfl
namespace Go.Proofs.Ytfeljihbaekfmaa.Rf
open Go.RowKit Go.Proofs.Ytfeljihbaekfmaa.Fo

def nmL (k : Nat) : List UInt8 := [110, UInt8.ofNat (97 + k / 26 % 26), UInt8.ofNat (97 + k % 26)]
def nm (k : Nat) : Bs := ⟨(nmL k).toArray⟩
def tn (k : Nat) : Bs := ⟨(116 :: nmL k).toArray⟩
def rn (k : Nat) : Bs := ⟨(114 :: nmL k).toArray⟩
theorem u8_inj {a b : Nat} (ha : a < 256) (hb : b < 256) (h : UInt8.ofNat a = UInt8.ofNat b) : a = b := by
  have := congrArg UInt8.toNat h
  simp only [UInt8.toNat_ofNat'] at this
  omega
theorem nmL_inj {i j : Nat} (hi : i < 300) (hj : j < 300) (h : nmL i = nmL j) : i = j := by
  unfold nmL at h
  injection h with _ h
  injection h with h1 h
  injection h with h2 _
  have := u8_inj (by omega) (by omega) h1
  have := u8_inj (by omega) (by omega) h2
  omega
theorem nm_inj {i j : Nat} (hi : i < 300) (hj : j < 300) (h : nm i = nm j) : i = j := nmL_inj hi hj (by have := congrArg (fun b : Bs => b.data.toList) h; simpa [nm] using this)
theorem tn_inj {i j : Nat} (hi : i < 300) (hj : j < 300) (h : tn i = tn j) : i = j := nmL_inj hi hj (by have := congrArg (fun b : Bs => b.data.toList) h; simpa [tn] using this)
theorem rn_inj {i j : Nat} (hi : i < 300) (hj : j < 300) (h : rn i = rn j) : i = j := nmL_inj hi hj (by have := congrArg (fun b : Bs => b.data.toList) h; simpa [rn] using this)
theorem tn_rn {i j : Nat} : tn i ≠ rn j := fun h => by have := congrArg (fun b : Bs => b.data.toList) h; simp [tn, rn] at this
theorem words_all : ((List.range 300).all fun k => wrdL (nmL k) && wrdL (116 :: nmL k) && wrdL (114 :: nmL k)) = true := by kernel_rfl
theorem words {k : Nat} (h : k < 300) : wrd (nm k) = true ∧ wrd (tn k) = true ∧ wrd (rn k) = true := by
  have := List.all_eq_true.1 words_all k (List.mem_range.2 h)
  simp only [Bool.and_eq_true] at this
  exact ⟨this.1.1, this.1.2, this.2⟩
def gL : Gr := mkG ⟨#[97, 110, 110]⟩ ⟨#[119, 101, 98]⟩ ⟨#[115]⟩ []
theorem gL_words : wrd gL.user = true ∧ wrd gL.client = true ∧ wrd gL.session = true ∧ chkS gL.scopes = 0 := by exact ⟨by kernel_rfl, by kernel_rfl, by kernel_rfl, by kernel_rfl⟩
/-- A family of this statement. -/
def FamL (x : Fm) : Prop := x.ended = false ∧ 2 < x.untl ∧ x.fin = 101 ∧ x.g = gL
structure L1 (st : St) (K : Nat) : Prop where
  life : st.life = 10
  total : st.total = 100
  len : st.l.length = min K 256
  fam : ∀ x ∈ st.l, FamL x ∧ (∃ j, j < K ∧ x.id = nm j) ∧ ∀ t ∈ x.toks, ∃ j, j < K ∧ t = tn j
  first : 0 < K → ∃ x, st.l[0]? = some x ∧ x.toks = [tn 0]
structure L2 (st : St) (n I : Nat) (last : Bs) : Prop where
  life : st.life = 10
  len : st.l.length = n
  fam : ∀ x ∈ st.l, FamL x ∧ ∀ t ∈ x.toks, (∃ j, t = tn j) ∨ ∃ j, 1 ≤ j ∧ j < I ∧ t = rn j
  first : ∃ x, st.l[0]? = some x ∧ x.toks.getLast? = some last ∧ x.toks.length = min I 256
theorem l1_zero : L1 ⟨10, 100, []⟩ 0 := ⟨rfl, rfl, rfl, fun x h => by simp at h, fun h => by omega⟩
theorem l1_step {st : St} {K : Nat} (h : L1 st K) (hK : K < 300) : (K < 256 → (start st (nm K) (tn K) gL 1).2 = 0 ∧ L1 (start st (nm K) (tn K) gL 1).1 (K + 1)) ∧ (256 ≤ K → start st (nm K) (tn K) gL 1 = (st, 3) ∧ L1 st (K + 1)) := by
  obtain ⟨w1, w2, w3⟩ := words hK
  obtain ⟨g1, g2, g3, g4⟩ := gL_words
  have ht : tokI st.l (tn K) = none := tokI_none.2 fun x hx hm => by
    obtain ⟨j, hj, e⟩ := (h.fam x hx).2.2 _ hm
    have := tn_inj hK (by omega) e
    omega
  have hi : idI st.l (nm K) = none := idI_none.2 fun x hx e => by
    obtain ⟨j, hj, e2⟩ := (h.fam x hx).2.1
    rw [e2] at e
    have := nm_inj (by omega) hK e
    omega
  have hE : startE st (nm K) (tn K) gL = if 256 ≤ st.l.length then 3 else 0 := by
    unfold startE
    rw [w1, w2, g1, g2, g3, g4, ht, hi]
    simp
  refine ⟨fun hk => ?_, fun hk => ?_⟩
  · have hl : st.l.length = K := by rw [h.len]; omega
    have h0 : startE st (nm K) (tn K) gL = 0 := by rw [hE, if_neg (by omega)]
    unfold start
    rw [if_pos h0]
    refine ⟨rfl, h.life, h.total, by simp [hl]; omega, fun x hx => ?_, fun _ => ?_⟩
    · rcases List.mem_append.1 hx with hx | hx
      · obtain ⟨a, ⟨j, hj, e⟩, c⟩ := h.fam x hx
        exact ⟨a, ⟨j, by omega, e⟩, fun t htt => by obtain ⟨j, hj, e⟩ := c t htt; exact ⟨j, by omega, e⟩⟩
      · rw [List.mem_singleton] at hx
        subst hx
        refine ⟨⟨rfl, ?_, ?_, rfl⟩, ⟨K, by omega, rfl⟩, fun t htt => ⟨K, by omega, by simpa [newF] using htt⟩⟩
        · simp only [newF, h.life, h.total]; decide
        · simp only [newF, h.total]; decide
    · rcases Nat.eq_zero_or_pos K with e | e
      · subst e
        have : st.l = [] := List.eq_nil_of_length_eq_zero hl
        rw [this]
        exact ⟨_, rfl, rfl⟩
      · obtain ⟨x, hx, e2⟩ := h.first e
        exact ⟨x, by simp only; rw [List.getElem?_append_left (List.getElem?_eq_some_iff.1 hx).1]; exact hx, e2⟩
  · have h3 : startE st (nm K) (tn K) gL = 3 := by rw [hE, if_pos (by rw [h.len]; omega)]
    refine ⟨by unfold start; rw [if_neg (by rw [h3]; decide), h3], h.life, h.total, by rw [h.len]; omega, fun x hx => ?_, fun _ => h.first (by omega)⟩
    obtain ⟨a, ⟨j, hj, e⟩, c⟩ := h.fam x hx
    exact ⟨a, ⟨j, by omega, e⟩, fun t htt => by obtain ⟨j, hj, e⟩ := c t htt; exact ⟨j, by omega, e⟩⟩
theorem l2_first {st : St} {K : Nat} (h : L1 st K) (hK : 0 < K) : L2 st (min K 256) 1 (tn 0) := by
  obtain ⟨x, hx, e⟩ := h.first hK
  exact ⟨h.life, h.len, fun y hy => ⟨(h.fam y hy).1, fun t ht => by obtain ⟨j, _, e⟩ := (h.fam y hy).2.2 t ht; exact Or.inl ⟨j, e⟩⟩, ⟨x, hx, by rw [e]; rfl, by rw [e]; rfl⟩⟩
theorem l2_step {st : St} {n I : Nat} {last : Bs} (h : L2 st n I last) (hi : Inv st) (h1 : 1 ≤ I) (hI : I < 300) : (I < 256 → (rot st last (rn I) ⟨#[119, 101, 98]⟩ [] 2).2.2 = 0 ∧ L2 (rot st last (rn I) ⟨#[119, 101, 98]⟩ [] 2).1 n (I + 1) (rn I)) ∧ (256 ≤ I → rot st last (rn I) ⟨#[119, 101, 98]⟩ [] 2 = (st, (noG, 3)) ∧ L2 st n (I + 1) last) := by
  obtain ⟨x, hx, hl, hlen⟩ := h.first
  have hxm := List.mem_of_getElem? hx
  obtain ⟨⟨f1, f2, f3, f4⟩, ftk⟩ := h.fam x hxm
  have htk := tok_at hi hx (List.mem_of_getLast? hl)
  have hr := rot_at (n := rn I) (c := ⟨#[119, 101, 98]⟩) (sc := []) (now := 2) htk hx
  have hn : tokI st.l (rn I) = none := tokI_none.2 fun y hy hm => by
    rcases (h.fam y hy).2 _ hm with ⟨j, e⟩ | ⟨j, _, hj, e⟩
    · exact tn_rn e.symm
    · have := rn_inj hI (by omega) e; omega
  have hlm : ¬ x.untl ≤ limI 2 := by
    have e9 : limI 2 = 2 := (by decide)
    omega
  have hE : rotE st x last (rn I) ⟨#[119, 101, 98]⟩ [] 2 = if 256 ≤ x.toks.length then 3 else 0 := by
    unfold rotE
    rw [if_neg (by rw [f4]; exact fun h => h rfl), if_neg (by rw [hl]; exact fun h => h rfl), f1, if_neg (by simp), if_neg hlm, (words hI).2.2, if_neg (by simp), hn, if_neg (by simp), if_neg (by simp [withinS])]
  refine ⟨fun hk => ?_, fun hk => ?_⟩
  · have h0 : rotE st x last (rn I) ⟨#[119, 101, 98]⟩ [] 2 = 0 := by rw [hE, if_neg (by omega)]
    rw [hr, if_neg (by rw [h0]; decide), if_pos h0]
    have hx2 : (st.l.set 0 (rotF st x (rn I) 2))[0]? = some (rotF st x (rn I) 2) := by
      simp only [List.getElem?_set, if_true, (List.getElem?_eq_some_iff.1 hx).1]
    refine ⟨rfl, h.life, by simp [h.len], fun y hy => ?_, ⟨_, hx2, by simp [rotF], by simp [rotF]; omega⟩⟩
    rcases mem_set hy with rfl | ⟨j, _, hj⟩
    · refine ⟨⟨f1, ?_, f3, f4⟩, fun t ht => ?_⟩
      · have e1 : addC 2 st.life = 12 := by rw [h.life]; decide
        have e2 : (rotF st x (rn I) 2).untl = min (addC 2 st.life) x.fin := rfl
        rw [e2, e1, f3]; decide
      · simp only [rotF, List.mem_append, List.mem_singleton] at ht
        rcases ht with ht | ht
        · rcases ftk t ht with e | ⟨j, a, b, e⟩
          · exact Or.inl e
          · exact Or.inr ⟨j, a, by omega, e⟩
        · exact Or.inr ⟨I, h1, by omega, ht⟩
    · obtain ⟨a, b⟩ := h.fam y (List.mem_of_getElem? hj)
      exact ⟨a, fun t ht => by
        rcases b t ht with e | ⟨j, a, b, e⟩
        · exact Or.inl e
        · exact Or.inr ⟨j, a, by omega, e⟩⟩
  · have h3 : rotE st x last (rn I) ⟨#[119, 101, 98]⟩ [] 2 = 3 := by rw [hE, if_pos (by omega)]
    refine ⟨by rw [hr, if_neg (by rw [h3]; decide), if_neg (by rw [h3]; decide), h3], h.life, h.len, fun y hy => ?_, ⟨x, hx, hl, by omega⟩⟩
    obtain ⟨a, b⟩ := h.fam y hy
    exact ⟨a, fun t ht => by
      rcases b t ht with e | ⟨j, a, b, e⟩
      · exact Or.inl e
      · exact Or.inr ⟨j, a, by omega, e⟩⟩
/-- What the last calls answer. -/
theorem l_last {st : St} {n : Nat} (hl : st.l.length = n) (h : ∀ x ∈ st.l, FamL x) : lenS st 2 = n ∧ endN (isCli ⟨#[97, 110, 110]⟩ ⟨#[97, 112, 112]⟩) st = 0 ∧ endS (isCli ⟨#[97, 110, 110]⟩ ⟨#[97, 112, 112]⟩) st = st ∧ endN (isSes ⟨#[115]⟩) st = n ∧ lenS (endS (isSes ⟨#[115]⟩) st) 2 = 0 := by
  have e2 : limI 2 = 2 := by decide
  have hc : ∀ x ∈ st.l, isCli ⟨#[97, 110, 110]⟩ ⟨#[97, 112, 112]⟩ x = false := fun x hx => by
    unfold isCli
    rw [(h x hx).2.2.2]
    kernel_rfl
  have hs : ∀ x ∈ st.l, isSes ⟨#[115]⟩ x = true := fun x hx => by
    unfold isSes
    rw [(h x hx).2.2.2]
    kernel_rfl
  refine ⟨?_, ?_, ?_, ?_, ?_⟩
  · rw [← hl]
    unfold lenS
    rw [List.countP_eq_length]
    intro x hx
    obtain ⟨a, b, _⟩ := h x hx
    simp only [liveF, a, e2]
    simpa using b
  · unfold endN
    rw [List.countP_eq_zero]
    intro x hx
    rw [hc x hx]
    simp
  · unfold endS
    have : st.l.map (endF (isCli ⟨#[97, 110, 110]⟩ ⟨#[97, 112, 112]⟩)) = st.l := by
      conv => rhs; rw [← List.map_id st.l]
      refine List.map_congr_left fun x hx => ?_
      unfold endF
      rw [hc x hx]
      simp
    rw [this]
  · rw [← hl]
    unfold endN
    rw [List.countP_eq_length]
    intro x hx
    rw [hs x hx, (h x hx).1]
    rfl
  · unfold lenS
    rw [List.countP_eq_zero]
    intro y hy
    simp only [endS, List.mem_map] at hy
    obtain ⟨x, hx, rfl⟩ := hy
    unfold endF
    rw [hs x hx, (h x hx).1]
    simp [liveF]
end Go.Proofs.Ytfeljihbaekfmaa.Rf
