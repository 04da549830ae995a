/-
  The walks of layer 15: hex, Format.
-/
import Derived.Test.YteidbomkbddliaaCsnC
namespace Go.Proofs.Yteidbomkbddliaa.Csn
open Go.RowKit

def B8 (c : UInt8) : Value := .int .u8 (c.toNat : Int)
def hexRow (n K i : Nat) : List Value := List.replicate (K - i) (.int .u8 0) ++ (hexL n i).map B8
theorem hexL_head (n k : Nat) : hexL n (k + 1) = dig (n / 16 ^ k % 16) :: hexL n k := by
  induction k generalizing n with
  | zero => simp [hexL]
  | succ k ih =>
    rw [hexL, ih (n / 16), hexL]
    simp [Nat.div_div_eq_div_mul, Nat.pow_succ, Nat.mul_comm]
theorem hexRow_set (n K i : Nat) (h : i < K) : (hexRow n K i).set (K - 1 - i) (B8 (dig (n / 16 ^ i % 16))) = hexRow n K (i + 1) := by
  unfold hexRow
  have e : K - i = (K - 1 - i) + 1 := by omega
  have e2 : K - (i + 1) = K - 1 - i := by omega
  rw [e, e2, List.replicate_succ', List.append_assoc, List.set_append_right _ _ (by simp), hexL_head]
  simp
theorem byte_info : (Try.prog.info? 5).map (fun i => (i.zero, i.size, i.bytes)) = some (some (.int .u8 0), 1, 1) := by kernel_rfl

theorem digit_dig (m : Nat) (h : m < (⟨#[48, 49, 50, 51, 52, 53, 54, 55, 56, 57, 97, 98, 99, 100, 101, 102]⟩ : ByteArray).size) : (⟨#[48, 49, 50, 51, 52, 53, 54, 55, 56, 57, 97, 98, 99, 100, 101, 102]⟩ : ByteArray)[m] = dig m := by
  have h3 : ∀ q : Fin 16, ((⟨#[48, 49, 50, 51, 52, 53, 54, 55, 56, 57, 97, 98, 99, 100, 101, 102]⟩ : ByteArray)[q.1]'(q.2)) = dig q.1 := by decide +kernel
  exact h3 ⟨m, h⟩
theorem hexRow_at (n K i : Nat) (h : i < K) : (hexRow n K i)[K - 1 - i]? = some (.int .u8 0) := by
  unfold hexRow
  rw [List.getElem?_append_left (by rw [List.length_replicate]; omega), List.getElem?_replicate, if_pos (by omega)]
theorem shift16 (n k : Nat) : bits .and .i64 ((n : Int) / 2 ^ (4 * k)) 15 = ((n / 16 ^ k % 16 : Nat) : Int) := by
  rw [i64_and15]
  have e : (2 : Int) ^ (4 * k) = ((16 ^ k : Nat) : Int) := by
    rw [Int.pow_mul]
    simp
  rw [e]
  omega
theorem hexRow_start (n K : Nat) : (madeCells (Value.int .u8 0).cells (K * 1)).toList = hexRow n K 0 := by
  simp [hexRow, hexL, madeCells, Value.cells]
  apply List.ext_getElem?
  intro i
  by_cases h : i < K <;> simp [h, Nat.mod_one]
theorem hexRow_str (n K : Nat) : strOfNums ((hexL n K).map fun c => (c.toNat : Int)) = ⟨(hexL n K).toArray⟩ := by
  unfold strOfNums
  congr 2
  rw [List.map_map]
  exact List.map_id'' (fun c => by simp) _
theorem hexRow_getD (n K i : Nat) (h : i < K) : (hexRow n K K)[i]? = some (.int .u8 (((hexL n K).map fun c => (c.toNat : Int)).getD i 0)) := by
  have hl := hexL_length n K
  simp [hexRow, B8, List.getElem?_eq_getElem (show i < (hexL n K).length by omega)]

set_option maxHeartbeats 1000000 in
theorem hex_any (n K : Nat) (w : World) (hK : K ≤ 15) (hK1 : 0 < K) :
    Calls Try.prog 42 #[.int .i64 (n : Int), .int .i64 (K : Int)] w fun e w' => e = .returned (.string ⟨(hexL n K).toArray⟩) ∧ Below w.heap.size w w' := by
  obtain ⟨i0, hi, hz0, hz1, hz2⟩ := info_parts byte_info
  go_enter Try.func42, Try.ntmps42
  go_wp2_with (refine wpList_make_full _ rfl _ _ _ rfl w.heap.size 5 i0 _ 1 Try.underlying59 hi hz0 hz1 .i64 .i64 K K K rfl rfl rfl rfl (by rw [hz2]; omega) (by simp only [maxLen]; omega) (Nat.le_refl _) ?_; intro w1 hown hgrow)
  go_loopw [6, 11] (fun _ i wr => ∃ k : Nat, k ≤ K ∧ i = .int .i64 k ∧ wr.ownsRow w.heap.size 5 1 (.slice (some ⟨w.heap.size, 0, none⟩) K K) K (hexRow n K k) ∧ Below w.heap.size w wr) (fun _ i _ => K - (intOf i).toNat)
  case atStart => exact ⟨0, Nat.zero_le _, rfl, by rw [← hexRow_start]; exact hown, (Below.refl _ _).grown hgrow (Nat.le_refl _) (by simp)⟩
  case round =>
    obtain ⟨k, hk, rfl, ho, hb⟩ := hrel
    have HB := Lib.hid hb
    have HO := Lib.hid ho
    by_cases hlt : k < K
    · have hcell := (ho.cellAt (K - 1 - k) (by omega)).trans (hexRow_at n K k hlt)
      have hfr := ho.frozenAt (K - 1 - k)
      obtain ⟨m, hm⟩ : ∃ m, m = n / 16 ^ k % 16 := ⟨_, rfl⟩
      have hm16 : m < 16 := by omega
      have hbits := shift16 n k
      rw [← hm] at hbits
      have HM := Lib.hid hm
      have HS := Lib.hid (hexRow_set n K k hlt)
      have HD := Lib.hid (digit_dig m hm16)
      clear hm ho hb
      go_wp2
      go_roundw
      case rel => exact ⟨k + 1, by omega, by go_num, by rw [← HS.out, ← HM.out, ← HD.out]; exact (HO.out.stored (K - 1 - k) _).1, HB.out.setCell (by simp) _⟩
      case measure => simp [intOf]; omega
    · have e : k = K := by omega
      subst e
      have hcv := run_convert_bytes_arg (P := Try.prog) wr 59 5 Try.underlying59 Try.underlying5 w.heap.size 0 k k ((hexL n k).map fun c => (c.toNat : Int)) (by simp [hexL_length]) (fun i hi => by
        rw [Nat.zero_add, ho.cellAt i (by omega)]
        exact hexRow_getD n k i hi) 9 Try.underlying9
      rw [hexRow_str] at hcv
      clear ho hb
      go_wp2
      go_ret
      exact ⟨rfl, HB.out⟩

theorem rhex_step (n k : Nat) : hexL n (k + 1) = [dig (n / 16 ^ k % 16)] ++ hexL n k := hexL_head n k
set_option maxHeartbeats 1000000 in
theorem rhex_any (n K : Nat) (w : World) (hK : K ≤ 15) (hn : n ≤ 1099511627776) :
    Calls Try.prog 43 #[.int .i64 (n : Int), .int .i64 (K : Int)] w fun e w' => e = .returned (.string ⟨(hexL n K).toArray⟩) ∧ Below w.heap.size w w' := by
  go_enter Try.func43, Try.ntmps43
  go_wp2
  go_loopw [0, 5, 6] (fun m o i wr => ∃ k q : Nat, k ≤ K ∧ i = .int .i64 k ∧ m = .int .i64 q ∧ q ≤ 1099511627776 ∧ Hid (q = n / 16 ^ k) ∧ o = .string ⟨(hexL n k).toArray⟩ ∧ Below w.heap.size w wr) (fun _ _ i _ => K - (intOf i).toNat)
  case atStart => exact ⟨0, n, Nat.zero_le _, rfl, rfl, hn, by simp [Hid], rfl, Below.refl _ _⟩
  case round =>
    obtain ⟨k, q, hk, rfl, rfl, hq, hqe, rfl, hb⟩ := hrel
    have HB := Lib.hid hb
    by_cases hlt : k < K
    · have hm16 : q % 16 < 16 := by omega
      have hd := digit_dig (q % 16) hm16
      have hcv := run_convert_bytes_arg (P := Try.prog) (wr.alloc (.cells #[.int .u8 ((dig (q % 16)).toNat : Int)] 5)) 59 5 Try.underlying59 Try.underlying5 wr.heap.size 0 1 1 [((dig (q % 16)).toNat : Int)] rfl (fun i hi => by
        have e : i = 0 := by omega
        subst e
        simp [go_sem]) 9 Try.underlying9
      have e1 : strOfNums [((dig (q % 16)).toNat : Int)] = ⟨#[dig (q % 16)]⟩ := by simp [strOfNums]
      rw [e1] at hcv
      have HS := Lib.hid (rhex_step n k)
      have hl : ¬ 9223372036854775807 < 1 + (hexL n k).length := by rw [hexL_length]; omega
      clear hb e1
      go_wp2
      go_roundw
      case rel => exact ⟨k + 1, q / 16, by omega, by go_num, by go_num, by omega, by show q / 16 = _; rw [hqe.out, Nat.div_div_eq_div_mul, Nat.pow_succ], by rw [HS.out, ← hqe.out, ← ba_list], HB.out.alloc HB.out.size _⟩
      case measure => simp [intOf]; omega
    · have e : k = K := by omega
      subst e
      clear hb
      go_wp2
      go_ret
      exact ⟨rfl, HB.out⟩

/-- The text form of a valid number. -/
def fmtL (t s r : Nat) : List UInt8 := hexL t 11 ++ [45] ++ hexL s 8 ++ [45] ++ hexL r 1
def fmtC (t s r : Int) : List UInt8 := if vld t s r then fmtL t.toNat s.toNat r.toNat else []
theorem fmt_str (a b c : List UInt8) : (⟨(a ++ [45] ++ b ++ [45] ++ c).toArray⟩ : ByteArray) = ⟨a.toArray ++ #[45] ++ b.toArray ++ #[45] ++ c.toArray⟩ := by simp

set_option maxHeartbeats 1000000 in
theorem format_any (t s r : Int) (w : World) :
    Calls Try.prog 18 #[.agg #[.int .i64 t, .int .i64 s, .int .i64 r]] w fun e w' => e = .returned (.string ⟨(fmtC t s r).toArray⟩) ∧ Below w.heap.size w w' := by
  cases h : vld t s r with
  | false =>
    have HF := Lib.hid (show fmtC t s r = [] by simp [fmtC, h])
    go_enter Try.func18, Try.ntmps18
    go_wp2_with (go_at_call 12; refine (valid_any _ _ _ _).mono ?_; rintro e w1 ⟨rfl, hb⟩)
    go_ret
    exact ⟨by rw [HF.out]; rfl, ((Below.refl _ _).alloc (Nat.le_refl _) _).trans (hb.mono (by simp))⟩
  | true =>
    have HF0 : fmtC t s r = fmtL t.toNat s.toNat r.toNat := by simp [fmtC, h]
    obtain ⟨v1, v2, v3, v4, v5, v6⟩ := vld_iff.1 h
    obtain ⟨t, rfl⟩ := Int.eq_ofNat_of_zero_le v1
    obtain ⟨s, rfl⟩ := Int.eq_ofNat_of_zero_le v3
    obtain ⟨r, rfl⟩ := Int.eq_ofNat_of_zero_le v5
    simp only [Int.toNat_natCast] at HF0
    have HF := Lib.hid HF0
    clear HF0
    go_enter Try.func18, Try.ntmps18
    go_wp2_with (go_at_call 12; refine (valid_any _ _ _ _).mono ?_; rintro e w1 ⟨rfl, hb⟩; have hz1 : w.heap.size < w1.heap.size := by (have := hb.size; simp at this; omega)); have k1 := bkeep hb (b := w.heap.size) (by simp)
    have hL := hexL_length
    go_region_held3 (fun w' => w'.cell? ⟨w.heap.size, 0, none⟩ = some (.int .i64 (t : Int)) ∧ w'.cell? ⟨w.heap.size, 1, none⟩ = some (.int .i64 (s : Int)) ∧ w'.cell? ⟨w.heap.size, 2, none⟩ = some (.int .i64 (r : Int))) (simp [go_sem, *])
      (first | (go_at_call_of 42 (Value.int .i64 (t : Int)); refine (hex_any t 11 _ (by omega) (by omega)).mono ?_; rintro e w2 ⟨rfl, hb2⟩; have k2 : ∀ o, w2.cell? ⟨w.heap.size, o, none⟩ = w1.cell? ⟨w.heap.size, o, none⟩ := bkeep hb2 hz1; have hz2 := Nat.lt_of_lt_of_le hz1 hb2.size) | (go_at_call_of 42 (Value.int .i64 (s : Int)); refine (hex_any s 8 _ (by omega) (by omega)).mono ?_;  rintro e w3 ⟨rfl, hb3⟩; have k3 : ∀ o, w3.cell? ⟨w.heap.size, o, none⟩ = w2.cell? ⟨w.heap.size, o, none⟩ := bkeep hb3 hz2; have hz3 := Nat.lt_of_lt_of_le hz2 hb3.size) | (go_at_call_of 42 (Value.int .i64 (r : Int)); refine (hex_any r 1 _ (by omega) (by omega)).mono ?_; rintro e w4 ⟨rfl, hb4⟩; have k4 : ∀ o, w4.cell? ⟨w.heap.size, o, none⟩ = w3.cell? ⟨w.heap.size, o, none⟩ := bkeep hb4 hz3; have hz4 := Nat.lt_of_lt_of_le hz3 hb4.size))
    go_wp2
    go_ret
    refine ⟨?_, (((((Below.refl _ _).alloc (Nat.le_refl _) _).trans (hb.mono (by simp))).drew.trans (hb2.mono (Nat.le_of_lt hz1))).trans (hb3.mono (Nat.le_of_lt hz2))).trans (hb4.mono (Nat.le_of_lt hz3))⟩
    exact ret_str (by rw [HF.out]; simp [fmtL, ba_append])

set_option maxHeartbeats 1000000 in
theorem rformat_any (t s r : Int) (w : World) :
    Calls Try.prog 19 #[.agg #[.int .i64 t, .int .i64 s, .int .i64 r]] w fun e w' => e = .returned (.string ⟨(fmtC t s r).toArray⟩) ∧ Below w.heap.size w w' := by
  cases h : vld t s r with
  | false =>
    have HF := Lib.hid (show fmtC t s r = [] by simp [fmtC, h])
    go_enter Try.func19, Try.ntmps19
    go_wp2_with (go_at_call 13; refine (rvalid_any _ _ _ _).mono ?_; rintro e w1 ⟨rfl, hb⟩)
    go_ret
    exact ⟨by rw [HF.out]; rfl, ((Below.refl _ _).alloc (Nat.le_refl _) _).trans (hb.mono (by simp))⟩
  | true =>
    have HF0 : fmtC t s r = fmtL t.toNat s.toNat r.toNat := by simp [fmtC, h]
    obtain ⟨v1, v2, v3, v4, v5, v6⟩ := vld_iff.1 h
    obtain ⟨t, rfl⟩ := Int.eq_ofNat_of_zero_le v1
    obtain ⟨s, rfl⟩ := Int.eq_ofNat_of_zero_le v3
    obtain ⟨r, rfl⟩ := Int.eq_ofNat_of_zero_le v5
    simp only [Int.toNat_natCast] at HF0
    have HF := Lib.hid HF0
    clear HF0
    go_enter Try.func19, Try.ntmps19
    go_wp2_with (go_at_call 13; refine (rvalid_any _ _ _ _).mono ?_; rintro e w1 ⟨rfl, hb⟩; have hz1 : w.heap.size < w1.heap.size := by (have := hb.size; simp at this; omega)); have k1 := bkeep hb (b := w.heap.size) (by simp)
    have hL := hexL_length
    go_region_held3 (fun w' => w'.cell? ⟨w.heap.size, 0, none⟩ = some (.int .i64 (t : Int)) ∧ w'.cell? ⟨w.heap.size, 1, none⟩ = some (.int .i64 (s : Int)) ∧ w'.cell? ⟨w.heap.size, 2, none⟩ = some (.int .i64 (r : Int))) (simp [go_sem, *])
      (first | (go_at_call_of 43 (Value.int .i64 (t : Int)); refine (rhex_any t 11 _ (by omega) (by omega)).mono ?_; rintro e w2 ⟨rfl, hb2⟩; have k2 : ∀ o, w2.cell? ⟨w.heap.size, o, none⟩ = w1.cell? ⟨w.heap.size, o, none⟩ := bkeep hb2 hz1; have hz2 := Nat.lt_of_lt_of_le hz1 hb2.size) | (go_at_call_of 43 (Value.int .i64 (s : Int)); refine (rhex_any s 8 _ (by omega) (by omega)).mono ?_;  rintro e w3 ⟨rfl, hb3⟩; have k3 : ∀ o, w3.cell? ⟨w.heap.size, o, none⟩ = w2.cell? ⟨w.heap.size, o, none⟩ := bkeep hb3 hz2; have hz3 := Nat.lt_of_lt_of_le hz2 hb3.size) | (go_at_call_of 43 (Value.int .i64 (r : Int)); refine (rhex_any r 1 _ (by omega) (by omega)).mono ?_; rintro e w4 ⟨rfl, hb4⟩; have k4 : ∀ o, w4.cell? ⟨w.heap.size, o, none⟩ = w3.cell? ⟨w.heap.size, o, none⟩ := bkeep hb4 hz3; have hz4 := Nat.lt_of_lt_of_le hz3 hb4.size))
    go_wp2
    go_ret
    refine ⟨?_, (((((Below.refl _ _).alloc (Nat.le_refl _) _).trans (hb.mono (by simp))).drew.trans (hb2.mono (Nat.le_of_lt hz1))).trans (hb3.mono (Nat.le_of_lt hz2))).trans (hb4.mono (Nat.le_of_lt hz3))⟩
    exact ret_str (by rw [HF.out]; simp [fmtL, ba_append])
end Go.Proofs.Yteidbomkbddliaa.Csn
