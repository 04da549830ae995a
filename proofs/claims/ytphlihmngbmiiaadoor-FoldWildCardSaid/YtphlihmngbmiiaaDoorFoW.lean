/-
  The walk of the law FoldWild.
-/
import Derived.Test.YtphlihmngbmiiaaDoorFoN
import Derived.Test.YtphlihmngbmiiaaDoorFoQ
namespace Go.Proofs.YtphlihmngbmiiaaDoor.Fo
open Go.RowKit

theorem str_eq' {a b : ByteArray} (h : a.data.toList = b.data.toList) : a = b := ByteArray.ext (by rw [← Array.toArray_toList (xs := a.data), h, Array.toArray_toList])
theorem str_info : (Tryd.prog.info? 9).map (fun i => (i.zero, i.size, i.bytes)) = some (some (.string ⟨#[]⟩), 1, 16) := by kernel_rfl
/-- The cells of strings. -/
def strV (l : List ByteArray) : List Value := l.map .string
/-- A row of strings of the call's own. -/
def OwnT (w : World) (base : Nat) (A : Option Addr) (m c : Nat) (l : List ByteArray) : Prop := l.length = m ∧ w.ownsRow base 9 1 (.slice A m c) m (strV l)
theorem strV_one (l : List ByteArray) : ∀ u ∈ strV l, u.oneCell' = true := by
  intro u hu
  simp only [strV, List.mem_map] at hu
  obtain ⟨c, _, rfl⟩ := hu
  rfl
theorem sAt_get {l : List ByteArray} {i : Nat} (h : i < l.length) : sAt l i = l[i] := by simp [sAt, List.getD, h]
theorem OwnT.ss {w : World} {base : Nat} {A : Option Addr} {m c : Nat} {l : List ByteArray} (h : OwnT w base A m c l) : Ss w A m c l := by
  obtain ⟨hl, h⟩ := h
  rcases h.2 with ⟨hv, hn⟩ | ⟨g, cap, cur, hv, hg, hh, hnc, hcm, hcs, ht⟩
  · injection hv with e1 e2 e3
    subst e1; subst e2; subst e3
    exact ⟨hl, Nat.le_refl _, fun h => absurd h (by omega)⟩
  · injection hv with e1 e2 e3
    subst e1; subst e3
    refine ⟨hl, hnc, fun h0 => ⟨g, 0, rfl, (Array.getElem?_eq_some_iff.1 hh).1, fun i hi => ?_⟩⟩
    have h1 : cur.toList[i]? = (strV l)[i]? := by
      rw [← ht, List.getElem?_take, if_pos (by omega)]
    rw [Nat.zero_add]
    simp only [World.cell?, hh]
    simp [strV] at h1
    simp [h1, hl, hi, sAt_get (show i < l.length by omega)]
/-- Behind the append law. -/
theorem OwnT.app {w1 : World} {base : Nat} {v' : Value} {m q : Nat} {l k : List ByteArray} (hl : l.length = m) (hk : k.length = q) (h0 : 0 < m + q) (h : w1.ownsRow base 9 1 v' (m + q) (strV l ++ strV k)) :
    ∃ A1 c1, v' = .slice A1 (m + q) c1 ∧ OwnT w1 base A1 (m + q) c1 (l ++ k) := by
  have hf : ∃ A1 c1, v' = .slice A1 (m + q) c1 := by
    rcases h.2 with ⟨_, hn⟩ | ⟨g, cap, cur, rfl, _⟩
    · omega
    · exact ⟨_, _, rfl⟩
  obtain ⟨A1, c1, rfl⟩ := hf
  exact ⟨A1, c1, rfl, by rw [List.length_append, hl, hk], by rw [strV, List.map_append]; exact h⟩
theorem ss_src {w : World} {b off n : Nat} {l : List ByteArray} (hl : l.length = n) (hc : ∀ i, i < n → w.cell? ⟨b, off + i, none⟩ = some (.string (sAt l i))) (p q : Nat) (hq : p + q ≤ n) : ∀ j u, (strV ((l.drop p).take q))[j]? = some u → w.cell? ((⟨b, off + p, none⟩ : Addr).add j) = some u := by
  intro j u hu
  have hadd : (⟨b, off + p, none⟩ : Addr).add j = ⟨b, off + p + j, none⟩ := by unfold Addr.add; split <;> simp_all
  rw [hadd]
  have hlen : (strV ((l.drop p).take q)).length = q := by simp [strV]; omega
  have hj : j < q := by
    rcases Nat.lt_or_ge j q with h | h
    · exact h
    · rw [List.getElem?_eq_none (by omega)] at hu; cases hu
  rw [show off + p + j = off + (p + j) by omega, hc (p + j) (by omega)]
  rw [← hu]
  simp [strV, sAt, List.getD, hj, show p + j < l.length by omega]
theorem ss_drop {w : World} {b off n : Nat} {l : List ByteArray} (hl : l.length = n) (hc : ∀ i, i < n → w.cell? ⟨b, off + i, none⟩ = some (.string (sAt l i))) (p : Nat) (hp : p ≤ n) : ∀ j u, (strV (l.drop p))[j]? = some u → w.cell? ((⟨b, off + p, none⟩ : Addr).add j) = some u := by
  have := ss_src hl hc p (n - p) (by omega)
  rwa [List.take_of_length_le (by rw [List.length_drop]; omega)] at this
theorem short_iff {l : List ByteArray} : Short l ↔ ∀ x ∈ l, x.size ≤ 100000 := by
  constructor
  · intro h x hx
    obtain ⟨i, hi, rfl⟩ := List.getElem_of_mem hx
    have := h i hi
    rwa [sAt_get hi] at this
  · intro h i hi
    rw [sAt_get hi]
    exact h _ (List.getElem_mem hi)
theorem short_more {l : List ByteArray} (h : Short l) (k : Nat) : Short (l.take k ++ [⟨#[]⟩] ++ l.drop k) := by
  rw [short_iff] at h ⊢
  intro x hx
  simp only [List.mem_append, List.mem_singleton] at hx
  rcases hx with (hx | hx) | hx
  · exact h x (List.mem_of_mem_take hx)
  · subst hx; decide
  · exact h x (List.mem_of_mem_drop hx)
theorem more_eq (l : List ByteArray) (k : Nat) : strsL (l.take k ++ [⟨#[]⟩] ++ l.drop k) = (strsL l).take k ++ [] :: (strsL l).drop k := by simp [strsL]
theorem wild_idx (y m : Nat) (hm : m ≤ 6) : wrap64 (1 + (y : Int) % ((m : Int) + 1)) = ((y % (m + 1) : Nat) : Int) + 1 := by
  have h2 : (y : Int) % ((m : Int) + 1) = ((y % (m + 1) : Nat) : Int) := by exact_mod_cast rfl
  have h3 := Nat.mod_lt y (show 0 < m + 1 by omega)
  rw [h2]
  unfold wrap64
  omega
/-- A guard for an arm: the operation that writes slot d stands next. -/
theorem at_dst {P : Program} (d : Nat) {ops : Array Oper} {Q : Exit → Act → World → Prop} {rest : List Oper} {op : Op} {ty : TypeId} {pos : String} {af : Array Edge} {gd : Option (Nat × Bool)} {a : Act} {w : World}
    (h : wpList P ops Q (⟨some d, op, ty, pos, af, gd⟩ :: rest) a w) : wpList P ops Q (⟨some d, op, ty, pos, af, gd⟩ :: rest) a w := h
theorem fold_is' (s r : ByteArray) (w : World) (hs : s.size ≤ 100000) (h : foldL s.data.toList = r.data.toList) : Calls Tryd.prog 15 #[.string s] w fun e w' => e = .returned (.string r) ∧ Below w.heap.size w w' :=
  (fold_t s w hs).mono fun _ _ ⟨t, h1, h2, h3⟩ => ⟨by rw [h1, str_eq' (h2.trans h)], h3⟩
theorem match_is (s : ByteArray) (A : Option Addr) (n c : Nat) (l : List ByteArray) (w : World) (hs : s.size ≤ 100000) (hl : Ss w A n c l) (hn : n ≤ 1000) (hsh : Short l) (hm : MX w) (b : Bool) (h : matL s.data.toList (strsL l) = b) :
    Calls Tryd.prog 26 #[.string s, .slice A n c] w fun e w' => e = .returned (.bool b) ∧ Below w.heap.size w w' := by
  rw [← h]; exact match_any s A n c l w hs hl hn hsh hm
theorem wild_two (s : ByteArray) (w : World) (hs : s.size ≤ 100000) (hm : MX w) : Calls Tryd.prog 26 #[.string s, .slice (some ⟨w.heap.size, 0, none⟩) 2 2] (w.alloc (.cells #[.string ⟨#[]⟩, .string ⟨#[]⟩] 9)) fun e w' => e = .returned (.bool true) ∧ Below (w.alloc (.cells #[.string ⟨#[]⟩, .string ⟨#[]⟩] 9)).heap.size (w.alloc (.cells #[.string ⟨#[]⟩, .string ⟨#[]⟩] 9)) w' := by
  have hss : Ss (w.alloc (.cells #[.string ⟨#[]⟩, .string ⟨#[]⟩] 9)) (some ⟨w.heap.size, 0, none⟩) 2 2 [⟨#[]⟩, ⟨#[]⟩] := ⟨rfl, Nat.le_refl _, fun _ => ⟨w.heap.size, 0, rfl, by simp, fun i hi => by
    rcases i with _ | _ | i <;> first | (simp [go_sem, sAt]; done) | omega⟩⟩
  have hsh : Short [⟨#[]⟩, ⟨#[]⟩] := fun i hi => by
    rcases i with _ | _ | i <;> first | decide | (simp at hi; omega)
  exact match_is s _ 2 2 _ _ hs hss (by omega) hsh (hm.later ((Below.refl _ _).alloc (Nat.le_refl _) _)) true (mat_wild _)

set_option maxRecDepth 100000 in
set_option maxHeartbeats 8000000 in
theorem wild_long (s : ByteArray) (A : Option Addr) (n c y : Nat) (w : World) (hm : MX w) (hs : 300 < s.size) :
    Calls Tryd.prog 9 #[.string s, .slice A n c, .int .u8 (y : Int)] w fun e w' => e = .returned (.bool true) ∧ Below w.heap.size w w' := by
  have HM := Lib.hid hm
  have HB := Lib.hid (Below.refl w.heap.size w)
  clear hm
  have g1 : (300 : Int) < (s.size : Int) := by omega
  go_enter Tryd.func9, Tryd.ntmps9
  go_wp2_with fail
  refine (alive_any _ (HM.out.later HB.out)).mono ?_
  rintro e w1 ⟨rfl, hb⟩
  (first | (have HBn := Lib.hid (ext_call HB.out hb)) | (have HBn := Lib.hid (ext_new HB.out hb))); clear HB hb; have HB := HBn; clear HBn
  go_wp2
  go_ret
  exact ⟨rfl, HB.out⟩

set_option maxRecDepth 100000 in
set_option maxHeartbeats 8000000 in
theorem wild_many (s : ByteArray) (A : Option Addr) (n c y : Nat) (l : List ByteArray) (w : World) (hm : MX w) (hl : Ss w A n c l) (hn : n ≤ 9223372036854775807) (hs : s.size ≤ 300) (hf : fewB l n = false) :
    Calls Tryd.prog 9 #[.string s, .slice A n c, .int .u8 (y : Int)] w fun e w' => e = .returned (.bool true) ∧ Below w.heap.size w w' := by
  have HM := Lib.hid hm
  have HB := Lib.hid (Below.refl w.heap.size w)
  clear hm
  have HL := Lib.hid hl
  clear hl
  have HF := Lib.hid hf
  clear hf
  have g1 : ¬ (300 : Int) < (s.size : Int) := by omega
  go_enter Tryd.func9, Tryd.ntmps9
  go_wp2_with fail
  refine (few_is A n c l _ (HL.out.below HB.out) hn _ HF.out).mono ?_
  rintro e w1 ⟨rfl, hb⟩
  (first | (have HBn := Lib.hid (ext_call HB.out hb)) | (have HBn := Lib.hid (ext_new HB.out hb))); clear HB hb; have HB := HBn; clear HBn
  go_wp2_with fail
  refine (alive_any _ (HM.out.later HB.out)).mono ?_
  rintro e w1 ⟨rfl, hb⟩
  (first | (have HBn := Lib.hid (ext_call HB.out hb)) | (have HBn := Lib.hid (ext_new HB.out hb))); clear HB hb; have HB := HBn; clear HBn
  go_wp2
  go_ret
  exact ⟨rfl, HB.out⟩

set_option maxRecDepth 100000 in
set_option maxHeartbeats 8000000 in
theorem wild_one (s : ByteArray) (A : Option Addr) (n c y : Nat) (l : List ByteArray) (w : World) (hm : MX w) (hl : Ss w A n c l) (hn : n ≤ 9223372036854775807) (hs : s.size ≤ 300) (hf : fewB l n = true) (h2 : n < 2) :
    Calls Tryd.prog 9 #[.string s, .slice A n c, .int .u8 (y : Int)] w fun e w' => e = .returned (.bool true) ∧ Below w.heap.size w w' := by
  have HM := Lib.hid hm
  have HB := Lib.hid (Below.refl w.heap.size w)
  clear hm
  have HL := Lib.hid hl
  clear hl
  have HF := Lib.hid hf
  have hf2 : (∀ i, i < n → (sAt l i).size ≤ 60) ∧ n ≤ 8 := of_decide_eq_true hf
  have hn8 := hf2.2
  have HSH := Lib.hid (show Short l from fun i hi => Nat.le_trans (hf2.1 i (by rw [HL.out.1] at hi; exact hi)) (by omega))
  clear hf hf2
  have g1 : ¬ (300 : Int) < (s.size : Int) := by omega
  obtain ⟨F, hF⟩ : ∃ F : ByteArray, F.data.toList = foldL s.data.toList := ⟨⟨(foldL s.data.toList).toArray⟩, by simp⟩
  have HFF := Lib.hid hF
  have hfz : F.size ≤ s.size := by have := foldL_le s.data.toList; rw [← hF] at this; simpa using this
  obtain ⟨M, hM⟩ : ∃ M, M = matL s.data.toList (strsL l) := ⟨_, rfl⟩
  have HMM := Lib.hid hM.symm
  have HM2 := Lib.hid (show matL F.data.toList (strsL l) = M by rw [hF, mat_fold, hM])
  clear hF hM
  have g2 : (n : Int) < 2 := by omega
  have HM3 := Lib.hid (show matL s.data.toList (strsL l) = false from matL_short (by rw [strsL, List.length_map, HL.out.1]; exact h2))
  go_enter Tryd.func9, Tryd.ntmps9
  go_wp2_with fail
  refine (few_is A n c l _ (HL.out.below HB.out) hn _ HF.out).mono ?_
  rintro e w1 ⟨rfl, hb⟩
  (first | (have HBn := Lib.hid (ext_call HB.out hb)) | (have HBn := Lib.hid (ext_new HB.out hb))); clear HB hb; have HB := HBn; clear HBn
  go_wp2_with fail
  refine (wild_two s _ (by omega) (HM.out.later HB.out)).mono ?_
  rintro e w1 ⟨rfl, hb⟩
  (first | (have HBn := Lib.hid (ext_call HB.out hb)) | (have HBn := Lib.hid (ext_new HB.out hb))); clear HB hb; have HB := HBn; clear HBn
  go_wp2_with fail
  refine (match_is s A n c l _ (by omega) (HL.out.below HB.out) (by omega) HSH.out (HM.out.later HB.out) _ HMM.out).mono ?_
  rintro e w1 ⟨rfl, hb⟩
  (first | (have HBn := Lib.hid (ext_call HB.out hb)) | (have HBn := Lib.hid (ext_new HB.out hb))); clear HB hb; have HB := HBn; clear HBn
  go_wp2_with fail
  refine (fold_is' s F _ (by omega) HFF.out.symm).mono ?_
  rintro e w1 ⟨rfl, hb⟩
  (first | (have HBn := Lib.hid (ext_call HB.out hb)) | (have HBn := Lib.hid (ext_new HB.out hb))); clear HB hb; have HB := HBn; clear HBn
  go_wp2_with fail
  refine (match_is F A n c l _ (by omega) (HL.out.below HB.out) (by omega) HSH.out (HM.out.later HB.out) _ HM2.out).mono ?_
  rintro e w1 ⟨rfl, hb⟩
  (first | (have HBn := Lib.hid (ext_call HB.out hb)) | (have HBn := Lib.hid (ext_new HB.out hb))); clear HB hb; have HB := HBn; clear HBn
  go_wp2_with fail
  refine (match_is s A n c l _ (by omega) (HL.out.below HB.out) (by omega) HSH.out (HM.out.later HB.out) _ HM3.out).mono ?_
  rintro e w1 ⟨rfl, hb⟩
  (first | (have HBn := Lib.hid (ext_call HB.out hb)) | (have HBn := Lib.hid (ext_new HB.out hb))); clear HB hb; have HB := HBn; clear HBn
  go_wp2_with fail
  refine (alive_any _ (HM.out.later HB.out)).mono ?_
  rintro e w1 ⟨rfl, hb⟩
  (first | (have HBn := Lib.hid (ext_call HB.out hb)) | (have HBn := Lib.hid (ext_new HB.out hb))); clear HB hb; have HB := HBn; clear HBn
  go_wp2
  go_ret
  exact ⟨rfl, HB.out⟩

set_option maxRecDepth 100000 in
set_option maxHeartbeats 8000000 in
theorem wild_main (s : ByteArray) (b off m c y : Nat) (l : List ByteArray) (w : World) (hm : MX w) (hl : Ss w (some ⟨b, off, none⟩) (m + 2) c l) (hbl : b < w.heap.size) (hcl : ∀ i, i < m + 2 → w.cell? ⟨b, off + i, none⟩ = some (.string (sAt l i))) (hn : m + 2 ≤ 9223372036854775807) (hy : y ≤ 255) (hs : s.size ≤ 300) (hf : fewB l (m + 2) = true) :
    Calls Tryd.prog 9 #[.string s, .slice (some ⟨b, off, none⟩) (m + 2) c, .int .u8 (y : Int)] w fun e w' => e = .returned (.bool true) ∧ Below w.heap.size w w' := by
  have HM := Lib.hid hm
  have HB := Lib.hid (Below.refl w.heap.size w)
  clear hm
  have HL := Lib.hid hl
  clear hl
  have HF := Lib.hid hf
  have hf2 : (∀ i, i < m + 2 → (sAt l i).size ≤ 60) ∧ m + 2 ≤ 8 := of_decide_eq_true hf
  have hn8 := hf2.2
  have HSH := Lib.hid (show Short l from fun i hi => Nat.le_trans (hf2.1 i (by rw [HL.out.1] at hi; exact hi)) (by omega))
  clear hf hf2
  have g1 : ¬ (300 : Int) < (s.size : Int) := by omega
  obtain ⟨F, hF⟩ : ∃ F : ByteArray, F.data.toList = foldL s.data.toList := ⟨⟨(foldL s.data.toList).toArray⟩, by simp⟩
  have HFF := Lib.hid hF
  have hfz : F.size ≤ s.size := by have := foldL_le s.data.toList; rw [← hF] at this; simpa using this
  obtain ⟨M, hM⟩ : ∃ M, M = matL s.data.toList (strsL l) := ⟨_, rfl⟩
  have HMM := Lib.hid hM.symm
  have HM2 := Lib.hid (show matL F.data.toList (strsL l) = M by rw [hF, mat_fold, hM])
  clear hF hM
  have HCL := Lib.hid hcl
  have hnc := HL.out.2.1
  have HLN := Lib.hid HL.out.1
  obtain ⟨i0, hi, hz0, hz1, hz2⟩ := info_parts str_info
  have g2 : ¬ (m : Int) + 2 < 2 := by omega
  clear hcl
  go_enter Tryd.func9, Tryd.ntmps9
  go_wp2_with fail
  refine (few_is (some ⟨b, off, none⟩) (m + 2) c l _ (HL.out.below HB.out) hn _ HF.out).mono ?_
  rintro e w1 ⟨rfl, hb⟩
  (first | (have HBn := Lib.hid (ext_call HB.out hb)) | (have HBn := Lib.hid (ext_new HB.out hb))); clear HB hb; have HB := HBn; clear HBn
  go_wp2_with fail
  refine (wild_two s _ (by omega) (HM.out.later HB.out)).mono ?_
  rintro e w1 ⟨rfl, hb⟩
  (first | (have HBn := Lib.hid (ext_call HB.out hb)) | (have HBn := Lib.hid (ext_new HB.out hb))); clear HB hb; have HB := HBn; clear HBn
  go_wp2_with fail
  refine (match_is s (some ⟨b, off, none⟩) (m + 2) c l _ (by omega) (HL.out.below HB.out) (by omega) HSH.out (HM.out.later HB.out) _ HMM.out).mono ?_
  rintro e w1 ⟨rfl, hb⟩
  (first | (have HBn := Lib.hid (ext_call HB.out hb)) | (have HBn := Lib.hid (ext_new HB.out hb))); clear HB hb; have HB := HBn; clear HBn
  go_wp2_with fail
  refine (fold_is' s F _ (by omega) HFF.out.symm).mono ?_
  rintro e w1 ⟨rfl, hb⟩
  (first | (have HBn := Lib.hid (ext_call HB.out hb)) | (have HBn := Lib.hid (ext_new HB.out hb))); clear HB hb; have HB := HBn; clear HBn
  go_wp2_with fail
  refine (match_is F (some ⟨b, off, none⟩) (m + 2) c l _ (by omega) (HL.out.below HB.out) (by omega) HSH.out (HM.out.later HB.out) _ HM2.out).mono ?_
  rintro e w1 ⟨rfl, hb⟩
  (first | (have HBn := Lib.hid (ext_call HB.out hb)) | (have HBn := Lib.hid (ext_new HB.out hb))); clear HB hb; have HB := HBn; clear HBn
  go_upto_region 7 with fail
  go_cut [7] (fun s7 wx => s7 = .int .i64 (((y % (m + 1) : Nat) : Int) + 1) ∧ wx = w1)
  case first =>
    have e1 : IntKind.i64.wrap ((m : Int) + 2 - 1) = (m : Int) + 1 := by rw [IntWalk.i64_in _ (by omega)]; omega
    have HE := Lib.hid (wild_idx y m (by omega))
    go_wp2
    go_meet
    exact ⟨by rw [HE.out], rfl⟩
  case rest =>
  obtain ⟨rfl, rfl⟩ := hcut
  obtain ⟨w2, rfl⟩ : ∃ x : World, x = wc := ⟨_, rfl⟩
  obtain ⟨q, hq⟩ : ∃ q, q = y % (m + 1) := ⟨_, rfl⟩
  have hqm : q ≤ m := by have := Nat.mod_lt y (show 0 < m + 1 by omega); omega
  rw [← hq]
  clear hq
  have s1 : (q : Int) + 1 ≤ (c : Int) := by omega
  have s2 : ((q : Int) + 1).toNat = q + 1 := by omega
  have s3 : (0 : Int) ≤ (q : Int) + 1 := by omega
  have s4 : (q : Int) + 1 ≤ (m : Int) + 2 := by omega
  have s5 : ¬ c = q + 1 := by omega
  have s6 : q + 1 ≤ c := by omega
  have HSRC := Lib.hid (ss_src (b := b) (off := off) HLN.out (fun i hi => (bkeep HB.out hbl (off + i)).trans (HCL.out i hi)) 0 (q + 1) (by omega))
  simp only [Nat.add_zero, List.drop_zero] at HSRC
  have HLT := Lib.hid (show (strV (l.take (q + 1))).length = (q + 1) * 1 by simp [strV]; have := HLN.out; omega)
  have HLT2 := Lib.hid (show (l.take (q + 1)).length = q + 1 by rw [List.length_take, HLN.out]; omega)
  have HRE := Lib.hid (show (strV (l.drop (q + 1))).length = (m + 1 - q) * 1 by simp [strV]; have := HLN.out; omega)
  have HRE2 := Lib.hid (show (l.drop (q + 1)).length = m + 1 - q by rw [List.length_drop, HLN.out]; omega)
  go_wp2_with (first
    | ((with_reducible refine at_dst 53 ?_); go_must (refine wpList_append_own_at _ rfl (.tmp 49) (.tmp 52) _ rfl w.heap.size 9 i0 _ 1 16 Tryd.underlying27 hi hz0 hz1 hz2 rfl (by decide) (.slice none 0 0) 0 (strV []) rfl (World.ownsRow_nil _ _ _ _) ⟨b, off, none⟩ (q + 1) c (strV (l.take (q + 1))) rfl HLT.out HSRC.out (strV_one _) (by simp only [maxLen]; omega) (by omega) HB.out.size ?_); intro v' w9 hown1 hgrow hnil hat; have HB9 := Lib.hid (HB.out.grown hgrow HB.out.size (fun k hk => by cases hk)); obtain ⟨A1, c1, hv9, hO1⟩ := OwnT.app rfl HLT2.out (by omega) hown1; rw [List.length_nil, Nat.zero_add] at hv9 hO1; subst hv9; have HO1 := Lib.hid hO1; clear hown1 hgrow hnil hat hO1)
    | ((with_reducible refine at_dst 56 ?_); go_must (refine wpList_append_own_at _ rfl (.tmp 54) (.tmp 55) _ rfl w.heap.size 9 i0 _ 1 16 Tryd.underlying27 hi hz0 hz1 hz2 rfl (by decide) (.slice A1 (q + 1) c1) (q + 1) (strV (l.take (q + 1))) rfl (World.ownsRow.alloc HO1.out.2 _) ⟨w9.heap.size, 0, none⟩ 1 1 [.string ⟨#[]⟩] rfl rfl (one_src _ _ _) (strV_one [⟨#[]⟩]) (by simp only [maxLen]; omega) (by omega) (by simp; have := HB9.out.size; omega) ?_); intro v' w10 hown1 hgrow hnil hat; have HB10 := Lib.hid ((HB9.out.alloc HB9.out.size _).grown hgrow (HB9.out.alloc HB9.out.size _).size (fun k hk => (World.ownsRow.lt HO1.out.2 k hk).1)); obtain ⟨A2, c2, hv9, hO1⟩ := OwnT.app (k := [⟨#[]⟩]) HLT2.out rfl (by omega) hown1; subst hv9; have HO2 := Lib.hid hO1; have HSRC2 := Lib.hid (ss_drop (b := b) (off := off) HLN.out (fun i hi => (bkeep HB10.out hbl (off + i)).trans (HCL.out i hi)) (q + 1) (by omega)); clear hown1 hgrow hnil hat hO1)
    | ((with_reducible refine at_dst 61 ?_); go_must (refine wpList_append_own_at _ rfl (.tmp 57) (.tmp 60) _ rfl w.heap.size 9 i0 _ 1 16 Tryd.underlying27 hi hz0 hz1 hz2 rfl (by decide) (.slice A2 (q + 1 + 1) c2) (q + 1 + 1) (strV (l.take (q + 1) ++ [⟨#[]⟩])) rfl HO2.out.2 ⟨b, off + (q + 1), none⟩ (m + 1 - q) (c - (q + 1)) (strV (l.drop (q + 1))) rfl HRE.out HSRC2.out (strV_one _) (by simp only [maxLen]; omega) (by omega) HB10.out.size ?_); intro v' w11 hown1 hgrow hnil hat; have HB11 := Lib.hid (HB10.out.grown hgrow HB10.out.size (fun k hk => (World.ownsRow.lt HO2.out.2 k hk).1)); obtain ⟨A3, c3, hv9, hO1⟩ := OwnT.app HO2.out.1 HRE2.out (by omega) hown1; subst hv9; have HO3 := Lib.hid hO1; clear hown1 hgrow hnil hat hO1))
  clear HB
  have HB := HB11
  clear HB11
  have HMO := Lib.hid (show matL s.data.toList (strsL (l.take (q + 1) ++ [⟨#[]⟩] ++ l.drop (q + 1))) = M by
    rw [more_eq, mat_more _ _ _ (by omega) (by rw [strsL, List.length_map, HLN.out]; omega), HMM.out])
  have HSM := Lib.hid (show Short (l.take (q + 1) ++ [⟨#[]⟩] ++ l.drop (q + 1)) from short_more HSH.out (q + 1))
  refine (match_is s A3 (q + 1 + 1 + (m + 1 - q)) c3 _ _ (by omega) HO3.out.ss (by omega) HSM.out (HM.out.later HB.out) _ HMO.out).mono ?_
  rintro e w1 ⟨rfl, hb⟩
  (first | (have HBn := Lib.hid (ext_call HB.out hb)) | (have HBn := Lib.hid (ext_new HB.out hb))); clear HB hb; have HB := HBn; clear HBn
  go_wp2_with fail
  refine (match_is s (some ⟨b, off, none⟩) (m + 2) c l _ (by omega) (HL.out.below HB.out) (by omega) HSH.out (HM.out.later HB.out) _ HMM.out).mono ?_
  rintro e w1 ⟨rfl, hb⟩
  (first | (have HBn := Lib.hid (ext_call HB.out hb)) | (have HBn := Lib.hid (ext_new HB.out hb))); clear HB hb; have HB := HBn; clear HBn
  go_wp2_with fail
  refine (alive_any _ (HM.out.later HB.out)).mono ?_
  rintro e w1 ⟨rfl, hb⟩
  (first | (have HBn := Lib.hid (ext_call HB.out hb)) | (have HBn := Lib.hid (ext_new HB.out hb))); clear HB hb; have HB := HBn; clear HBn
  go_wp2
  go_ret
  exact ⟨rfl, HB.out⟩

theorem u8_of {x : Int} (h : (Lit.int .u8 x).wf = true) : 0 ≤ x ∧ x ≤ 255 := by
  simp only [Lit.wf, Bool.and_eq_true, decide_eq_true_eq] at h
  have e1 : IntKind.u8.min = 0 := by decide
  have e2 : IntKind.u8.max = 255 := by decide
  rw [e1, e2] at h
  exact h
theorem wildLaw_any (s : ByteArray) (A : Option Addr) (n c : Nat) (l : List ByteArray) (x : Int) (w : World) (hm : MX w) (hl : Ss w A n c l) (hn : n ≤ 9223372036854775807) (hx : 0 ≤ x ∧ x ≤ 255) :
    Calls Tryd.prog 9 #[.string s, .slice A n c, .int .u8 x] w fun e w' => e = .returned (.bool true) ∧ Below w.heap.size w w' := by
  obtain ⟨y, rfl⟩ : ∃ y : Nat, x = y := ⟨x.toNat, by omega⟩
  rcases Nat.lt_or_ge 300 s.size with h | h
  · exact wild_long s A n c y w hm h
  · cases hf : fewB l n with
    | false => exact wild_many s A n c y l w hm hl hn h hf
    | true =>
      rcases Nat.lt_or_ge n 2 with h2 | h2
      · exact wild_one s A n c y l w hm hl hn h hf h2
      · obtain ⟨m, rfl⟩ : ∃ m, n = m + 2 := ⟨n - 2, by omega⟩
        obtain ⟨b, off, rfl, hbl, hc⟩ := hl.2.2 (by omega)
        exact wild_main s b off m c y l w hm hl hbl hc hn (by omega) h hf
end Go.Proofs.YtphlihmngbmiiaaDoor.Fo
