/-
  User codes: the program's Clean and UserCode.
-/
import Derived.Test.YtapooonlbjgbgaaDoorDvP
import Derived.Test.YtapooonlbjgbgaaDoorShelf
namespace Go.Proofs.YtapooonlbjgbgaaDoor.Dv
open Go.RowKit Go.Proofs.YtapooonlbjgbgaaDoor.Fo Go.Proofs.YtapooonlbjgbgaaDoor.Rf

theorem replK_filter (c : UInt8) : ∀ s : List UInt8, Lib.replaceK [c] [] (s.count c) s = s.filter fun x => decide (x ≠ c)
  | [] => by simp [Lib.replaceK]
  | b :: l => by
    have ih := replK_filter c l
    by_cases h : b = c
    · subst h
      have hix : Lib.index (b :: l) [b] = ((0 : Nat) : Int) := by rw [Lib.index]; simp [List.isPrefixOf]
      rw [List.count_cons_self, Lib.replaceK_hit _ _ _ _ 0 hix]
      simp [ih]
    · rw [List.count_cons_of_ne h]
      have hp : ([c] : List UInt8).isPrefixOf (b :: l) = false := by simp [List.isPrefixOf, Ne.symm h]
      cases hk : l.count c with
      | zero =>
        rw [hk] at ih
        simp only [Lib.replaceK] at ih ⊢
        rw [List.filter_cons, if_pos (by simpa using h), ← ih]
      | succ k =>
        rw [hk] at ih
        obtain ⟨i, hi⟩ := Lib.index_of_count (s := l) (old := [c]) (by rw [Lib.count_one, hk]; omega)
        have hix : Lib.index (b :: l) [c] = ((i + 1 : Nat) : Int) := by
          rw [Lib.index, hp]
          simp only [Bool.false_eq_true, if_false, hi]
          rw [if_neg (by intro e; have := beq_iff_eq.1 e; omega)]
          omega
        rw [Lib.replaceK_hit _ _ _ _ i hi] at ih
        rw [Lib.replaceK_hit _ _ _ _ (i + 1) hix, List.filter_cons, if_pos (by simpa using h), ← ih]
        simp
theorem repl_filter (c : UInt8) (s : List UInt8) : Lib.replaceAll s [c] [] = s.filter fun x => decide (x ≠ c) := by
  unfold Lib.replaceAll Lib.replace
  rw [if_neg (by simp)]
  unfold Lib.replaceNum
  rw [if_pos (Or.inl (by decide)), Lib.count_one]
  exact replK_filter c s
theorem repl_any (s : Bs) (c : UInt8) (w : World) (hs : s.size ≤ 100000) (hm : MX w) :
    Calls Tryd.prog 39 #[.string s, .string ⟨#[c]⟩, .string ⟨#[]⟩] w fun e w' => e = .returned (.string ⟨(s.data.toList.filter fun x => decide (x ≠ c)).toArray⟩) ∧ Below w.heap.size w w' := by
  obtain ⟨m, hm⟩ := hm
  refine (Tryd.strings_ReplaceAll s ⟨#[c]⟩ ⟨#[]⟩ m w (by omega) hm (show 1 ≤ (#[c] : Array UInt8).size from Nat.le_refl _) (by rw [show (⟨#[]⟩ : ByteArray).size = 0 from rfl]; omega)).mono ?_
  rintro e w' ⟨rfl, hb⟩
  have := repl_filter c s.data.toList
  exact ⟨ret_str (by rw [← this]), hb⟩
/-- In capitals. -/
theorem capB_lo {c : UInt8} (h : 97 ≤ c.toNat ∧ c.toNat ≤ 122) : (capB c).toNat = c.toNat - 32 := by
  rw [capB, if_pos h]
  rw [UInt8.toNat_sub_of_le _ _ (by rw [UInt8.le_iff_toNat_le]; have : (32 : UInt8).toNat = 32 := rfl; omega)]
  rfl
theorem capB_no {c : UInt8} (h : ¬ (97 ≤ c.toNat ∧ c.toNat ≤ 122)) : capB c = c := by rw [capB, if_neg h]
theorem capB_low (c : UInt8) : capB (lowB c) = capB c := by
  cases h : Fo.upB c with
  | true =>
    have h2 := lowB_up h
    simp [Fo.upB] at h
    have h3 := capB_lo (c := lowB c) (by omega)
    rw [capB_no (c := c) (by omega)]
    exact UInt8.toNat_inj.1 (by omega)
  | false => rw [lowB_no h]
def capTo (l : List UInt8) (k : Nat) : List UInt8 := (l.take k).map capB ++ l.drop k
theorem capTo_length (l : List UInt8) (k : Nat) : (capTo l k).length = l.length := by simp [capTo]; omega
theorem capTo_zero (l : List UInt8) : capTo l 0 = l := by simp [capTo]
theorem capTo_all (l : List UInt8) : capTo l l.length = l.map capB := by simp [capTo]
theorem capTo_at (l : List UInt8) (k : Nat) (h : k < l.length) : bAt (capTo l k) k = bAt l k := by
  unfold bAt capTo
  rw [List.getD, List.getElem?_append_right (by simp; omega), List.getD]
  simp [Nat.min_eq_left (Nat.le_of_lt h)]
theorem capTo_set (l : List UInt8) (k : Nat) (h : k < l.length) : (capTo l k).set k (capB (bAt l k)) = capTo l (k + 1) := by
  unfold capTo
  have e : List.drop k l = bAt l k :: List.drop (k + 1) l := by rw [List.drop_eq_getElem_cons h, bAt_get l k h]
  rw [List.set_append_right _ _ (by simp; omega), e, List.take_succ_eq_append_getElem h, bAt_get l k h]
  simp only [List.length_map, List.length_take, Nat.min_eq_left (Nat.le_of_lt h), Nat.sub_self, List.set_cons_zero, List.map_append, List.map_cons, List.map_nil, List.append_assoc, List.singleton_append]
theorem capTo_keep (l : List UInt8) (k : Nat) (h : k < l.length) (hn : capB (bAt l k) = bAt l k) : capTo l k = capTo l (k + 1) := by
  rw [← capTo_set l k h, hn, ← capTo_at l k h, bAt_get _ _ (by rw [capTo_length]; exact h), List.set_getElem_self]
theorem typ_is (s : List UInt8) : (lowL ((s.filter fun x => decide (x ≠ 32)).filter fun x => decide (x ≠ 45))).map capB = typL s := by
  unfold lowL typL
  rw [List.map_map, List.filter_filter]
  have e : (capB ∘ lowB) = capB := funext capB_low
  rw [e]
  congr 1
  refine List.filter_congr fun x _ => ?_
  rw [Bool.and_comm]
theorem con_is (c : UInt8) : decide (Lib.indexByte conL c < 0) = !conB c := by
  have h : ∀ n : Fin 256, decide (Lib.indexByte conL (UInt8.ofNat n.1) < 0) = !conB (UInt8.ofNat n.1) := by decide +kernel
  have := h ⟨c.toNat, c.toNat_lt⟩
  simpa using this
theorem odd_any (c : UInt8) (w : World) : Calls Tryd.prog 41 #[.int .u8 (c.toNat : Int)] w fun e w' => e = .returned (.bool (!conB c)) ∧ w = w' := by
  have HC := Lib.hid (con_is c)
  go_enter Tryd.func41, Tryd.ntmps41
  go_wp2_with fail
  refine (Tryd.strings_IndexByte ⟨conL.toArray⟩ (c.toNat : Int) w).mono ?_
  rintro e w1 ⟨rfl, rfl⟩
  go_wp2
  go_ret
  exact ⟨ret_bool HC.out, rfl⟩
theorem entersOdd : ∀ args w, (callFunc 41 args).run Tryd.prog w = .ok (.enter 41 args) w := enters_of Tryd.func41 (by kernel_rfl) rfl
/-- The place of the first byte that is no consonant. -/
def oddI (l : List UInt8) : Int := match l.findIdx? fun c => !conB c with | none => -1 | some i => i
theorem oddI_some {l : List UInt8} {k : Nat} (hk : k < l.length) (h : conB (bAt l k) = false) (hn : ∀ j, j < k → conB (bAt l j) = true) : oddI l = k := by
  unfold oddI
  have : l.findIdx? (fun c => !conB c) = some k := by
    rw [List.findIdx?_eq_some_iff_getElem]
    refine ⟨hk, by rw [← bAt_get l k hk, h]; rfl, fun j hj => ?_⟩
    rw [← bAt_get l j (by omega), hn j hj]
    decide
  rw [this]
theorem oddI_none {l : List UInt8} (hn : ∀ j, j < l.length → conB (bAt l j) = true) : oddI l = -1 := by
  unfold oddI
  have : l.findIdx? (fun c => !conB c) = none := by
    rw [List.findIdx?_eq_none_iff]
    intro c hc
    obtain ⟨j, hj, rfl⟩ := List.getElem_of_mem hc
    rw [← bAt_get l j hj, hn j hj]
    rfl
  rw [this]
theorem oddI_all (l : List UInt8) : decide (0 ≤ oddI l) = !l.all conB := by
  unfold oddI
  cases h : l.findIdx? fun c => !conB c with
  | none =>
    rw [List.findIdx?_eq_none_iff] at h
    have : l.all conB = true := List.all_eq_true.2 fun c hc => by simpa using h c hc
    rw [this]
    rfl
  | some i =>
    obtain ⟨hi, hp, _⟩ := List.findIdx?_eq_some_iff_getElem.1 h
    have : l.all conB = false := by
      rw [List.all_eq_false]
      exact ⟨l[i], List.getElem_mem hi, by simpa using hp⟩
    rw [this]
    simp
set_option maxHeartbeats 2000000 in
theorem idx_any (w : World) (g n C : Nat) (l : List UInt8) (hb : Bys w g l) (hn : l.length = n) (hn2 : n ≤ 100000) :
    Calls Tryd.prog 75 #[.slice (some ⟨g, 0, none⟩) n C, .func (.func 41) #[] #[]] w fun e w' => e = .returned (.int .i64 (oddI l)) ∧ Below w.heap.size w w' := by
  have HB := Lib.hid hb
  have HN := Lib.hid hn
  have hE := entersOdd
  clear hb
  go_enter Tryd.func75, Tryd.ntmps75
  go_wp2
  go_loopw [5, 8] (fun _ i wr => ∃ k : Nat, k ≤ n ∧ i = .int .i64 k ∧ Hid (∀ j, j < k → conB (bAt l j) = true) ∧ Below w.heap.size w wr) (fun _ i _ => n - (intOf i).toNat)
  case atStart => exact ⟨0, Nat.zero_le _, rfl, fun j hj => absurd hj (Nat.not_lt_zero _), Below.refl _ _⟩
  case round =>
    obtain ⟨k, hk, rfl, HA, hbw⟩ := hrel
    have HW := Lib.hid hbw
    clear hbw
    by_cases hlt : k < n
    · have hc := ((HB.out.later HW.out).2 k (by rw [HN.out]; exact hlt)).1
      obtain ⟨c, hcc⟩ : ∃ c, bAt l k = c := ⟨_, rfl⟩
      rw [hcc] at hc
      cases hok : conB c with
      | true =>
        have HO := Lib.hid hok
        have HC := Lib.hid hcc
        clear hok hcc
        go_wp2_with (refine (odd_any _ _).mono ?_; rintro e w1 ⟨rfl, rfl⟩; rw [HO.out])
        go_roundw
        case rel => exact ⟨k + 1, by omega, by go_num, fun j hj => if e : j = k then by rw [e, HC.out]; exact HO.out else HA.out j (by omega), HW.out⟩
        case measure => simp [intOf]; omega
      | false =>
        have HR := Lib.hid (oddI_some (by rw [HN.out]; exact hlt) (by rw [hcc]; exact hok) HA.out)
        have HO := Lib.hid hok
        clear hok hcc
        go_wp2_with (refine (odd_any _ _).mono ?_; rintro e w1 ⟨rfl, rfl⟩; rw [HO.out])
        go_ret
        exact ⟨ret_int HR.out.symm, HW.out⟩
    · have HR := Lib.hid (oddI_none (l := l) (fun j hj => HA.out j (by have := HN.out; omega)))
      go_wp2
      go_ret
      exact ⟨ret_int HR.out.symm, HW.out⟩
theorem cont_any (w : World) (g n C : Nat) (l : List UInt8) (hb : Bys w g l) (hn : l.length = n) (hn2 : n ≤ 100000) {b : Bool} (hv : (!l.all conB) = b) :
    Calls Tryd.prog 43 #[.slice (some ⟨g, 0, none⟩) n C, .func (.func 41) #[] #[]] w fun e w' => e = .returned (.bool b) ∧ Below w.heap.size w w' := by
  have HB := Lib.hid hb
  have HV := Lib.hid ((oddI_all l).trans hv)
  clear hb hv
  go_enter Tryd.func43, Tryd.ntmps43
  go_wp2_with fail
  refine (idx_any w g n C l HB.out hn hn2).mono ?_
  rintro e w1 ⟨rfl, hb⟩
  have HW := Lib.hid hb
  clear hb
  go_wp2
  go_ret
  exact ⟨ret_bool HV.out, HW.out⟩
theorem div_is (s : Bs) : s.extract 0 4 ++ (⟨#[45]⟩ : ByteArray) ++ s.extract 4 s.size = ⟨(divL s.data.toList).toArray⟩ := by
  apply ByteArray.ext
  rw [ByteArray.data_append, ByteArray.data_append]
  apply Array.ext'
  have : s.data.size = s.size := rfl
  simp [divL, ByteArray.data_extract, List.extract_eq_take_drop]
  rw [List.take_of_length_le (by simp)]
theorem divided_any (s : Bs) (h : 4 ≤ s.size) (hs : s.size ≤ 100000) (w : World) : Calls Tryd.prog 44 #[.string s] w fun e w' => e = .returned (.string ⟨(divL s.data.toList).toArray⟩) ∧ Below w.heap.size w w' := by
  have HD := Lib.hid (div_is s)
  go_enter Tryd.func44, Tryd.ntmps44
  go_wp2_with fail
  go_quiet (fail)
  go_wp2
  go_ret
  exact ⟨ret_str HD.out, below_drewN (Below.refl _ _) _⟩
end Go.Proofs.YtapooonlbjgbgaaDoor.Dv
