/-
  The walks of scopes: the reference's Valid; Implies, covered, Within, Check, the program's and the reference's.
-/
import Derived.Test.YtioabjniipkncaaDoorRfA
namespace Go.Proofs.YtioabjniipkncaaDoor.Rf
open Go.RowKit Go.Proofs.YtioabjniipkncaaDoor.Fo

theorem ddL_step {l : List UInt8} {k : Nat} (h1 : 1 ≤ k) (h : k < l.length) : ddL (l.drop (k - 1)) = (decide ((bAt l (k - 1)).toNat = 46 ∧ (bAt l k).toNat = 46) || ddL (l.drop k)) := by
  have e1 : l.drop (k - 1) = bAt l (k - 1) :: l.drop k := by
    rw [List.drop_eq_getElem_cons (by omega), ← bAt_get, show k - 1 + 1 = k by omega]
  have e2 : l.drop k = bAt l k :: l.drop (k + 1) := by rw [List.drop_eq_getElem_cons h, ← bAt_get]
  rw [e1, e2, ddL, ← e2]
  have : ∀ c : UInt8, c = 46 ↔ c.toNat = 46 := fun c => ⟨fun h => by subst h; rfl, fun h => UInt8.toNat_inj.1 h⟩
  simp only [this]
theorem ddL_end {l : List UInt8} {k : Nat} (h : ¬ k < l.length) : ddL (l.drop (k - 1)) = false := by
  have : (l.drop (k - 1)).length ≤ 1 := by rw [List.length_drop]; omega
  match hx : l.drop (k - 1), this with
  | [], _ => rfl
  | [a], _ => rfl
  | a :: b :: r, h2 => simp at h2
theorem scp_eq {s : Bs} (hw : wrdL s.data.toList = true) (h0 : 0 < s.size) : scp s = ((decide ((s[0].toNat : Int) ≠ 46) && decide ((s[s.size - 1].toNat : Int) ≠ 46)) && !ddL s.data.toList) := by
  have HLN : s.data.toList.length = s.size := by simp
  have hb0 := bAt_str s 0 (by omega)
  have hb1 := bAt_str s (s.size - 1) (by omega)
  unfold scp scpL
  rw [hw, HLN, hb0, hb1]
  have e : ∀ c : UInt8, decide (c ≠ 46) = decide ((c.toNat : Int) ≠ 46) := fun c => by
    rw [Bool.eq_iff_iff]
    simp only [decide_eq_true_eq]
    constructor
    · intro h h2
      have e46 : (46 : UInt8).toNat = 46 := rfl
      exact h (UInt8.toNat_inj.1 (by omega))
    · intro h h2
      subst h2
      exact h rfl
  rw [e, e, Bool.true_and]
theorem scope_is (s : Bs) (w : World) (hs : s.size ≤ 100000) (hm : MX w) (b : Bool) (h : scp s = b) : Calls Tryd.prog 52 #[.string s] w fun e w' => e = .returned (.bool b) ∧ w = w' := by rw [← h]; exact scope_any s w hs hm
theorem eq_toList {a b : Bs} : (a.toList == b.toList) = decide (a = b) := by
  rw [Lib.toList_data, Lib.toList_data, Bool.eq_iff_iff, beq_iff_eq, decide_eq_true_eq]
  exact ⟨bs_ext, fun h => by rw [h]⟩
theorem dot_add (a : Bs) : (a ++ (⟨#[46]⟩ : ByteArray)).data.toList = a.data.toList ++ [46] := by rw [ByteArray.data_append]; simp
theorem pre_take {a b : Bs} : decide (b.extract 0 (a.size + 1) = a ++ ⟨#[46]⟩) = preL a.data.toList b.data.toList := by
  unfold preL
  rw [Bool.eq_iff_iff, decide_eq_true_eq, List.isPrefixOf_iff_prefix, List.prefix_iff_eq_take]
  have e1 : (b.extract 0 (a.size + 1)).data.toList = b.data.toList.take (a.size + 1) := by rw [Lib.extract_data, List.drop_zero, Nat.sub_zero]
  constructor
  · intro h2
    have := congrArg (fun x : ByteArray => x.data.toList) h2
    simp only [e1, dot_add] at this
    rw [← this]
    simp
  · intro h2
    refine bs_ext ?_
    rw [e1, dot_add, h2]
    simp
theorem pre_len {a b : Bs} (h : ¬ a.size < b.size) : preL a.data.toList b.data.toList = false := by
  unfold preL
  rw [Bool.eq_false_iff]
  intro h2
  have := (List.isPrefixOf_iff_prefix.1 h2).length_le
  simp at this
  omega
end Go.Proofs.YtioabjniipkncaaDoor.Rf
