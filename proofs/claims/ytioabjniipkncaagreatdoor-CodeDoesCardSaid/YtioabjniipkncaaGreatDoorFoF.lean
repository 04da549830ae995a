/-
  The walks of layer 1: Clean and its reference.
-/
import Derived.Test.YtioabjniipkncaaGreatDoorFoE
import Derived.Laws.RangeAny
namespace Go.Proofs.YtioabjniipkncaaGreatDoor.Fo
open Go.RowKit

/-- A byte of a value. -/
def okB (c : UInt8) : Bool := decide (32 ≤ c.toNat ∧ c.toNat ≤ 126)
/-- Clean. -/
def clnL (l : List UInt8) : Bool := l.all okB && decide (1 ≤ l.length ∧ l.length ≤ 256) && decide (trimL l = l)
set_option maxHeartbeats 4000000 in
theorem clean_any (s : ByteArray) (w : World) (hs : s.size ≤ 100000) :
    Calls Tryz.prog 67 #[.string s] w fun e w' => e = .returned (.bool (clnL s.data.toList)) ∧ Below w.heap.size w w' := by
  have HS := Lib.hid hs
  have HLN := Lib.hid (show s.data.toList.length = s.size by simp)
  go_enter Tryz.func67, Tryz.ntmps67
  go_wp2
  go_loopw [4, 7, 8] (fun _ _ _ wr => ∃ p : Nat, p ≤ s.size ∧ wr = w.iter s p ∧ Hid (∀ j, j < p → okB (bAt s.data.toList j) = true)) (fun _ _ _ wr => s.size - wr.iterPos w.heap.size)
  case atStart => exact ⟨0, Nat.zero_le _, rfl, fun j hj => absurd hj (Nat.not_lt_zero _)⟩
  case round =>
    obtain ⟨p, hp, rfl, HA⟩ := hrel
    have HB := Lib.hid (show Below w.heap.size w (w.iter s p) from (Below.refl _ _).alloc (Nat.le_refl _) _)
    have HB' := Lib.hid (show Below w.heap.size w (w.iter s (p + 1)) from (Below.refl _ _).alloc (Nat.le_refl _) _)
    by_cases hlt : p < s.size
    · have hb := bAt_str s p hlt
      have HBP := Lib.hid hb
      clear hb
      cases hok : okB s[p] with
      | true =>
        have hok2 : 32 ≤ s[p].toNat ∧ s[p].toNat ≤ 126 := by simpa [okB] using hok
        have h1 : (32 : Int) ≤ (s[p].toNat : Int) := by omega
        have h2 : (s[p].toNat : Int) ≤ 126 := by omega
        have HO := Lib.hid hok
        have hn := fun ty => run_next_ascii (P := Tryz.prog) w s p ty hlt (by omega)
        clear hok hok2
        go_wp2
        go_roundw
        case rel => exact ⟨p + 1, by omega, rfl, fun j hj => if e : j = p then by rw [e, HBP.out]; exact HO.out else HA.out j (by omega)⟩
        case measure => simp; omega
      | false =>
        have HR := Lib.hid (show clnL s.data.toList = false by rw [clnL, all_not s.data.toList p (by rw [HLN.out]; exact hlt) (by rw [HBP.out]; exact hok)]; rfl)
        rcases (show s[p].toNat < 32 ∨ s[p].toNat = 127 ∨ 128 ≤ s[p].toNat by simp [okB] at hok; omega) with h | h | h
        · have h1 : (s[p].toNat : Int) < 32 := by omega
          have hn := fun ty => run_next_ascii (P := Tryz.prog) w s p ty hlt (by omega)
          clear hok h
          go_wp2
          go_ret
          exact ⟨ret_bool HR.out.symm, HB'.out⟩
        · have h1 : ¬ (s[p].toNat : Int) < 32 := by omega
          have h2 : (126 : Int) < (s[p].toNat : Int) := by omega
          have hn := fun ty => run_next_ascii (P := Tryz.prog) w s p ty hlt (by omega)
          clear hok h
          go_wp2
          go_ret
          exact ⟨ret_bool HR.out.symm, HB'.out⟩
        · obtain ⟨hd1, hd2⟩ := decode_high s p hlt h
          have h1 : ¬ (((Utf8.decode s p).1 : Nat) : Int) < 32 := by omega
          have h2 : (126 : Int) < (((Utf8.decode s p).1 : Nat) : Int) := by omega
          have HBX := Lib.hid (show Below w.heap.size w (w.iter s (p + (Utf8.decode s p).2)) from (Below.refl _ _).alloc (Nat.le_refl _) _)
          have hn := fun ty => run_next_any (P := Tryz.prog) w s p ty hlt
          clear hok h hd1 hd2
          go_wp2
          go_ret
          exact ⟨ret_bool HR.out.symm, HBX.out⟩
    · have e : p = s.size := by omega
      subst e
      have hn := fun ty => run_next_end (P := Tryz.prog) w s s.size ty hlt
      have HALL := Lib.hid (all_take (p := okB) s.data.toList (fun j hj => HA.out j (by rw [← HLN.out]; exact hj)))
      clear HA
      by_cases h0 : s.size = 0
      · have hse : s = ⟨#[]⟩ := by
          apply ByteArray.ext
          exact Array.eq_empty_of_size_eq_zero h0
        subst hse
        have HR := Lib.hid (show clnL (⟨#[]⟩ : ByteArray).data.toList = false by decide)
        clear h0 hn
        have hn := fun ty => run_next_end (P := Tryz.prog) w ⟨#[]⟩ 0 ty (by decide)
        have he1 : (⟨#[]⟩ : ByteArray).size = 0 := rfl
        go_wp2
        go_ret
        exact ⟨ret_bool HR.out.symm, HB.out⟩
      · have hne1 : s.toList.isEmpty = false := by rw [Lib.toList_data]; simp; intro h; apply h0; rw [← HLN.out, h]; rfl
        have hne2 : ¬ s.toList = [] := by intro h; rw [h] at hne1; cases hne1
        by_cases h256 : s.size ≤ 256
        · have h256' : decide ((s.size : Int) ≤ 256) = true := by simp; omega
          have HL := Lib.hid (show decide (1 ≤ s.data.toList.length ∧ s.data.toList.length ≤ 256) = true by rw [HLN.out]; simp; omega)
          by_cases ht : trimL s.data.toList = s.data.toList
          · have HR := Lib.hid (show clnL s.data.toList = true by rw [clnL, HALL.out, HL.out, ht]; simp)
            have HT := Lib.hid ht
            clear ht h0
            go_wp2_with (go_at_call 72; refine (trim_t s _ HS.out).mono ?_; rintro e w1 ⟨t, rfl, ht, hb⟩; obtain rfl : t = s := (ByteArray.ext (by rw [← Array.toArray_toList (xs := t.data), ht, HT.out])); have HB3 := Lib.hid (HB.out.trans (hb.mono HB.out.size)); clear hb ht)
            go_ret
            exact ⟨ret_bool HR.out.symm, HB3.out⟩
          · have HR := Lib.hid (show clnL s.data.toList = false by rw [clnL]; simp [ht])
            have HT := Lib.hid ht
            clear ht h0
            go_wp2_with (go_at_call 72; refine (trim_t s _ HS.out).mono ?_; rintro e w1 ⟨t, rfl, ht, hb⟩; have hq : (t.toList == s.toList) = false := (by rw [Lib.toList_data, Lib.toList_data, ht]; simpa using HT.out); have HB3 := Lib.hid (HB.out.trans (hb.mono HB.out.size)); clear hb ht)
            go_ret
            exact ⟨ret_bool HR.out.symm, HB3.out⟩
        · have h256' : decide ((s.size : Int) ≤ 256) = false := by simp; omega
          have HR := Lib.hid (show clnL s.data.toList = false by rw [clnL, HLN.out]; simp; intro _ _ h; omega)
          clear h0
          go_wp2
          go_ret
          exact ⟨ret_bool HR.out.symm, HB.out⟩

theorem trim_same {l : List UInt8} (h1 : bAt l 0 ≠ 32) (h2 : bAt l (l.length - 1) ≠ 32) : trimL l = l := by
  have := trim_is l 0 l.length (Nat.zero_le _) (fun j hj => absurd hj (Nat.not_lt_zero _)) (fun _ => h1) (by simp) (fun j hj hj2 => by simp at hj2; omega) (fun _ => by simpa using h2)
  rw [this]
  simp
theorem trim_head_ne {l : List UInt8} (h0 : 0 < l.length) (h1 : bAt l 0 = 32) : trimL l ≠ l := by
  intro h
  have := trimL_head l (by rw [h]; exact h0)
  rw [h] at this
  exact this h1
theorem trim_last_ne {l : List UInt8} {m : Nat} (h0 : l.length = m + 1) (h1 : bAt l m = 32) : trimL l ≠ l := by
  intro h
  have e : l.reverse = 32 :: (l.reverse).tail := by
    have hl : l.reverse.length = m + 1 := by simpa using h0
    cases hr : l.reverse with
    | nil => rw [hr] at hl; simp at hl
    | cons x r =>
      have hx : l.reverse[0]? = some x := by rw [hr]; rfl
      rw [List.getElem?_reverse (by omega)] at hx
      have : bAt l m = x := by
        unfold bAt
        rw [List.getD, show m = l.length - 1 - 0 by omega, hx]
        rfl
      rw [← this, h1]
      rfl
  have h2 : (trimL l).length ≤ m := by
    unfold trimL Lib.trimB Lib.trimLeftB Lib.trimRightB
    have h3 := dropWhile_le (· == 32) (l.reverse.dropWhile (· == 32)).reverse
    have h4 : (l.reverse.dropWhile (· == 32)).length ≤ m := by
      rw [e, List.dropWhile_cons, if_pos (by simp)]
      have := dropWhile_le (· == 32) l.reverse.tail
      rw [List.length_tail, List.length_reverse] at this
      omega
    simp only [List.length_reverse] at h3
    omega
  rw [h] at h2
  omega

set_option maxHeartbeats 4000000 in
theorem rclean_any (s : ByteArray) (w : World) (hs : s.size ≤ 100000) :
    Calls Tryz.prog 62 #[.string s] w fun e w' => e = .returned (.bool (clnL s.data.toList)) ∧ Below w.heap.size w w' := by
  have HLN := Lib.hid (show s.data.toList.length = s.size by simp)
  obtain ⟨n, hn⟩ : ∃ n, n = s.size := ⟨_, rfl⟩
  cases n with
  | zero =>
    have HR := Lib.hid (show clnL s.data.toList = false by rw [clnL, HLN.out, ← hn]; simp)
    have h1 : (s.size : Int) < 1 := by omega
    clear hn
    go_enter Tryz.func62, Tryz.ntmps62
    go_wp2
    go_ret
    exact ⟨ret_bool HR.out.symm, Below.refl _ _⟩
  | succ m =>
    have h0 : 0 < s.size := by omega
    have hm : m < s.size := by omega
    have hsm : s.size - 1 = m := by omega
    have HN := Lib.hid hn.symm
    have hb0 := bAt_str s 0 h0
    have hbm := bAt_str s m hm
    have g1 : ¬ (s.size : Int) < 1 := by omega
    have gm : IntKind.i64.wrap ((s.size : Int) - 1) = (m : Int) := by rw [IntWalk.i64_in _ (by omega)]; omega
    have gm2 : (s.size : Int) - 1 = (m : Int) := by omega
    by_cases h256 : s.size ≤ 256
    · have g2 : ¬ (256 : Int) < (s.size : Int) := by omega
      have HB0 := Lib.hid hb0
      have HBM := Lib.hid hbm
      have HSM := Lib.hid hsm
      clear hb0 hbm hn hsm
      by_cases c0 : s[0] = 32
      · have e0 : ((s[0].toNat : Int) == 32) = true := by rw [c0]; rfl
        have HR := Lib.hid (show clnL s.data.toList = false by
          have := trim_head_ne (l := s.data.toList) (by rw [HLN.out]; exact h0) (by rw [HB0.out]; exact c0)
          rw [clnL]; simp [this])
        clear c0 gm gm2
        go_enter Tryz.func62, Tryz.ntmps62
        go_wp2
        go_ret
        exact ⟨ret_bool HR.out.symm, Below.refl _ _⟩
      · have e0 : ((s[0].toNat : Int) == 32) = false := by
          rw [beq_eq_false_iff_ne]; intro h; exact c0 (UInt8.toNat_inj.1 (by exact_mod_cast h))
        have HC0 := Lib.hid c0
        clear c0
        by_cases cm : s[m] = 32
        · have em : ((s[m].toNat : Int) == 32) = true := by rw [cm]; rfl
          have HR := Lib.hid (show clnL s.data.toList = false by
            have := trim_last_ne (l := s.data.toList) (m := m) (by rw [HLN.out]; exact HN.out) (by rw [HBM.out]; exact cm)
            rw [clnL]; simp [this])
          clear cm
          go_enter Tryz.func62, Tryz.ntmps62
          go_wp2
          go_ret
          exact ⟨ret_bool HR.out.symm, Below.refl _ _⟩
        · have em : ((s[m].toNat : Int) == 32) = false := by
            rw [beq_eq_false_iff_ne]; intro h; exact cm (UInt8.toNat_inj.1 (by exact_mod_cast h))
          have HT := Lib.hid (show trimL s.data.toList = s.data.toList from trim_same (by rw [HB0.out]; exact HC0.out) (by rw [HLN.out, HSM.out, HBM.out]; exact cm))
          have HL := Lib.hid (show decide (1 ≤ s.data.toList.length ∧ s.data.toList.length ≤ 256) = true by rw [HLN.out]; simp; omega)
          clear cm
          go_enter Tryz.func62, Tryz.ntmps62
          go_wp2
          clear gm gm2 e0 em
          go_loop [3] (fun i => ∃ k : Nat, k ≤ s.size ∧ i = .int .i64 k ∧ Hid (∀ j, j < k → okB (bAt s.data.toList j) = true)) (fun i => s.size - (intOf i).toNat)
          case atStart => exact ⟨0, Nat.zero_le _, rfl, fun j hj => absurd hj (Nat.not_lt_zero _)⟩
          case round =>
            obtain ⟨k, hk, rfl, HA⟩ := hrel
            by_cases hlt : k < s.size
            · have HBK := Lib.hid (bAt_str s k hlt)
              cases hok : okB s[k] with
              | true =>
                have h1 : ¬ (s[k].toNat : Int) < 32 := by simp [okB] at hok; omega
                have h2 : ¬ (126 : Int) < (s[k].toNat : Int) := by simp [okB] at hok; omega
                have HO := Lib.hid hok
                clear hok
                go_wp2
                go_round
                case rel => exact ⟨k + 1, by omega, by go_num, fun j hj => if e : j = k then by rw [e, HBK.out]; exact HO.out else HA.out j (by omega)⟩
                case measure => simp [intOf]; omega
              | false =>
                have HR := Lib.hid (show clnL s.data.toList = false by rw [clnL, all_not s.data.toList k (by rw [HLN.out]; exact hlt) (by rw [HBK.out]; exact hok)]; rfl)
                rcases (show s[k].toNat < 32 ∨ 126 < s[k].toNat by simp [okB] at hok; omega) with h | h
                · have h1 : (s[k].toNat : Int) < 32 := by omega
                  clear hok h
                  go_wp2
                  go_ret
                  exact ⟨ret_bool HR.out.symm, Below.refl _ _⟩
                · have h1 : ¬ (s[k].toNat : Int) < 32 := by omega
                  have h2 : (126 : Int) < (s[k].toNat : Int) := by omega
                  clear hok h
                  go_wp2
                  go_ret
                  exact ⟨ret_bool HR.out.symm, Below.refl _ _⟩
            · have HALL := Lib.hid (all_take (p := okB) s.data.toList (fun j hj => HA.out j (by have := HLN.out; omega)))
              have HR := Lib.hid (show clnL s.data.toList = true by rw [clnL, HALL.out, HL.out, HT.out]; simp)
              go_wp2
              go_ret
              exact ⟨ret_bool HR.out.symm, Below.refl _ _⟩
    · have g2 : (256 : Int) < (s.size : Int) := by omega
      have HR := Lib.hid (show clnL s.data.toList = false by rw [clnL, HLN.out]; simp; intro _ _ h; omega)
      clear hn hsm hb0 hbm gm gm2
      go_enter Tryz.func62, Tryz.ntmps62
      go_wp2
      go_ret
      exact ⟨ret_bool HR.out.symm, Below.refl _ _⟩
end Go.Proofs.YtioabjniipkncaaGreatDoor.Fo
