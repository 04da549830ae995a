/-
  Digests: Sum.
-/
import Derived.Test.YtioabjniipkncaaGreatDoorRfD
import Derived.Test.YtioabjniipkncaaGreatDoorFoP
import Derived.Lib.EndianBits
import Derived.Laws.BitsLemmas
import Derived.Laws.Bits128
import Derived.Laws.Tables
namespace Go.Proofs.YtioabjniipkncaaGreatDoor.Rc
open Go.RowKit Go.Proofs.YtioabjniipkncaaGreatDoor.Fo Go.Proofs.YtioabjniipkncaaGreatDoor.Rf

def stepH (h : Int) (c : UInt8) : Int := IntKind.u64.wrap (bits BinOp.xor IntKind.u64 h (IntKind.u64.wrap (c.toNat : Int)) * 1099511628211)
def sumP (l : List UInt8) : Nat → Int
  | 0 => 14695981039346656037
  | k + 1 => stepH (sumP l k) (bAt l k)
def mixA (n : Int) : Int := IntKind.u64.wrap (bits BinOp.xor IntKind.u64 n (n / 8589934592) * 18397679294719823053)
def mixB (n : Int) : Int := IntKind.u64.wrap (bits BinOp.xor IntKind.u64 n (n / 8589934592) * 14181476777654086739)
def mixC (n : Int) : Int := bits BinOp.xor IntKind.u64 n (n / 8589934592)
def sumV (l : List UInt8) : Int := mixC (mixB (mixA (sumP l l.length)))
theorem u64_wrap (n : Int) : 0 ≤ IntKind.u64.wrap n ∧ IntKind.u64.wrap n < 18446744073709551616 := by
  rw [IntKind.wrap_u64]
  omega
theorem sumP_range (l : List UInt8) : ∀ k, 0 ≤ sumP l k ∧ sumP l k < 18446744073709551616
  | 0 => by unfold sumP; omega
  | k + 1 => u64_wrap _
theorem sum_any (s : Bs) (w : World) (hs : s.size ≤ 100000) : Calls Tryz.prog 86 #[.string s] w fun e w' => e = .returned (.int .u64 (sumV s.data.toList)) ∧ w = w' := by
  have HLN := Lib.hid (show s.data.toList.length = s.size by simp)
  go_enter Tryz.func86, Tryz.ntmps86
  go_wp2
  go_loopw [3, 4, 7] (fun h _ i wr => ∃ (k : Nat) (n : Int), i = .int .i64 k ∧ h = .int .u64 n ∧ Hid (n = sumP s.data.toList k) ∧ k ≤ s.size ∧ w = wr) (fun _ _ i _ => s.size - (intOf i).toNat)
  case atStart => exact ⟨0, _, rfl, rfl, rfl, Nat.zero_le _, rfl⟩
  case round =>
    obtain ⟨k, n, rfl, rfl, HN, hk, rfl⟩ := hrel
    by_cases hlt : k < s.size
    · have HBB := Lib.hid (bAt_str s k hlt)
      go_wp2
      go_roundw
      case rel => exact ⟨k + 1, _, by go_num, rfl, (show _ = sumP s.data.toList (k + 1) by rw [sumP, stepH, ← HN.out, HBB.out]), by omega, trivial⟩
      case measure => simp [intOf]; omega
    · have e : k = s.size := by omega
      have HR := Lib.hid (show sumV s.data.toList = mixC (mixB (mixA n)) by unfold sumV; rw [HLN.out, ← e, ← HN.out])
      go_wp2
      go_ret
      exact ⟨by rw [HR.out]; rfl, rfl⟩
/-- The table of digits. -/
def dgI (i : Nat) : UInt8 := ([48, 49, 50, 51, 52, 53, 54, 55, 56, 57, 97, 98, 99, 100, 101, 102] : List UInt8).getD i 0
def DG (w : World) : Prop := ∀ j, j < 16 → w.cell? ⟨0, j, none⟩ = some (.int .u8 ((dgI j).toNat : Int))
theorem DG.below {w w' : World} (h : DG w) (hb : Below w.heap.size w w') : DG w' := fun j hj => by
  rw [World.cell?_of_block (w := w) (hb.block 0 (World.block_lt_of_cell? w _ (h 0 (by omega))))]
  exact h j hj
def nib (n : Int) (i : Nat) : Nat := (n / 2 ^ (4 * i) % 16).toNat
theorem nib_lt (n : Int) (i : Nat) : nib n i < 16 := by unfold nib; omega
theorem nib_is (n : Int) (i : Nat) (h0 : 0 ≤ n) (h1 : n < 18446744073709551616) : bits BinOp.and IntKind.u64 (n / 2 ^ (4 * i)) 15 = ((nib n i : Nat) : Int) := by
  have hp : (0 : Int) < 2 ^ (4 * i) := by exact_mod_cast Nat.two_pow_pos (4 * i)
  have h2 : 0 ≤ n / 2 ^ (4 * i) := Int.ediv_nonneg h0 (Int.le_of_lt hp)
  have h3 : n / 2 ^ (4 * i) ≤ n := Int.ediv_le_self _ h0
  have h4 := bits_mask .u64 64 (by decide) wraps_u64 4 (by decide) (n / 2 ^ (4 * i)) h2 (by omega)
  rw [show ((2 : Int) ^ 4 - 1) = 15 by decide, show ((2 : Int) ^ 4) = 16 by decide] at h4
  rw [h4]
  unfold nib
  omega
/-- The digits written so far. -/
def hxL (n : Int) (k : Nat) : List UInt8 := (List.range 16).map fun j => if 15 - j < k then dgI (nib n (15 - j)) else 0
theorem hxL_length (n : Int) (k : Nat) : (hxL n k).length = 16 := by simp [hxL]
theorem hxL_set (n : Int) (k : Nat) (hk : k < 16) : (hxL n k).set (15 - k) (dgI (nib n k)) = hxL n (k + 1) := by
  refine List.ext_getElem? fun j => ?_
  rw [List.getElem?_set, hxL_length]
  by_cases hj : j < 16
  · have e1 : (hxL n (k + 1))[j]? = some (if 15 - j < k + 1 then dgI (nib n (15 - j)) else 0) := by simp [hxL, hj]
    have e2 : (hxL n k)[j]? = some (if 15 - j < k then dgI (nib n (15 - j)) else 0) := by simp [hxL, hj]
    rw [e1, e2]
    by_cases e : 15 - k = j
    · rw [if_pos e, if_pos (by omega), if_pos (by omega), show 15 - j = k by omega]
    · rw [if_neg e]
      by_cases h : 15 - j < k
      · rw [if_pos h, if_pos (by omega)]
      · rw [if_neg h, if_neg (by omega)]
  · have e1 : (hxL n (k + 1))[j]? = none := by rw [List.getElem?_eq_none]; rw [hxL_length]; omega
    have e2 : (hxL n k)[j]? = none := by rw [List.getElem?_eq_none]; rw [hxL_length]; omega
    rw [e1, e2, if_neg (by omega)]
/-- Hex. -/
def hexV (n : Int) : List UInt8 := hxL n 16
set_option maxRecDepth 100000 in
set_option maxHeartbeats 4000000 in
theorem hex_any (n : Int) (h0 : 0 ≤ n) (h1 : n < 18446744073709551616) (w : World) (hd : DG w) : Calls Tryz.prog 85 #[.int .u64 n] w fun e w' => e = .returned (.string ⟨(hexV n).toArray⟩) ∧ Below w.heap.size w w' := by
  have HD := Lib.hid hd
  have HNI := Lib.hid (fun i => nib_is n i h0 h1)
  clear hd
  go_enter Tryz.func85, Tryz.ntmps85
  go_upto_region 2 with fail
  obtain ⟨w0, hw0⟩ : ∃ w0, w0 = w.alloc (.cells #[.int .u8 0, .int .u8 0, .int .u8 0, .int .u8 0, .int .u8 0, .int .u8 0, .int .u8 0, .int .u8 0, .int .u8 0, .int .u8 0, .int .u8 0, .int .u8 0, .int .u8 0, .int .u8 0, .int .u8 0, .int .u8 0] 110) := ⟨_, rfl⟩
  rw [← hw0]
  have HB0 := Lib.hid (show Below w.heap.size w w0 by rw [hw0]; go_grown)
  have HX0 := Lib.hid (show w0.heap[w.heap.size]? = some (.cells #[.int .u8 0, .int .u8 0, .int .u8 0, .int .u8 0, .int .u8 0, .int .u8 0, .int .u8 0, .int .u8 0, .int .u8 0, .int .u8 0, .int .u8 0, .int .u8 0, .int .u8 0, .int .u8 0, .int .u8 0, .int .u8 0] 110 (0, 0)) by rw [hw0]; exact heap_alloc_new _ _)
  have HY0 := Lib.hid (show Bys w0 w.heap.size (hxL n 0) by
    refine ⟨by rw [hw0]; simp, fun j hj => ⟨?_, by simp only [World.frozen?, HX0.out]; rfl⟩⟩
    rw [hxL_length] at hj
    have e1 : bAt (hxL n 0) j = 0 := by simp [bAt, List.getD, hxL, hj]
    rw [e1]
    simp only [World.cell?, HX0.out]
    match j, hj with
    | 0, _ => rfl
    | 1, _ => rfl
    | 2, _ => rfl
    | 3, _ => rfl
    | 4, _ => rfl
    | 5, _ => rfl
    | 6, _ => rfl
    | 7, _ => rfl
    | 8, _ => rfl
    | 9, _ => rfl
    | 10, _ => rfl
    | 11, _ => rfl
    | 12, _ => rfl
    | 13, _ => rfl
    | 14, _ => rfl
    | 15, _ => rfl
    | j + 16, h => exact absurd h (by omega))
  clear hw0
  go_wp2
  go_loopw [4, 5] (fun _ i wr => ∃ (k : Nat), i = .int .i64 k ∧ k ≤ 16 ∧ Hid (Bys wr w.heap.size (hxL n k)) ∧ Below w.heap.size w wr) (fun _ i _ => 16 - (intOf i).toNat)
  case atStart => exact ⟨0, rfl, Nat.zero_le _, HY0.out, HB0.out⟩
  case round =>
    obtain ⟨k, rfl, hk, HY, hb⟩ := hrel
    have HB := Lib.hid hb
    clear hb
    by_cases hlt : k < 16
    · have hbit := HNI.out k
      obtain ⟨m, hm⟩ : ∃ m, nib n k = m := ⟨_, rfl⟩
      have hm16 : m < 16 := by rw [← hm]; exact nib_lt _ _
      rw [hm] at hbit
      have hcell := (HD.out.below HB.out) m hm16
      have e15 : (15 : Int) - (k : Int) = ((15 - k : Nat) : Int) := by omega
      obtain ⟨hc2, hf2⟩ := HY.out.2 (15 - k) (by rw [hxL_length]; omega)
      have HST := Lib.hid (show (hxL n k).set (15 - k) (dgI m) = hxL n (k + 1) by rw [← hm]; exact hxL_set n k hlt)
      clear hm
      go_wp2
      go_roundw
      case rel => exact ⟨k + 1, by go_num, by omega, (by rw [← HST.out]; exact HY.out.set (15 - k) (by rw [hxL_length]; omega) _), HB.out.setCell (Nat.le_refl _) _⟩
      case measure => simp [intOf]; omega
    · have e : k = 16 := by omega
      subst e
      have hcv := run_convert_bytes_arg (P := Tryz.prog) wr 90 5 Tryz.underlying90 Tryz.underlying5 w.heap.size 0 16 16 ((hexV n).map fun c => (c.toNat : Int)) (by rw [List.length_map]; exact hxL_length n 16) (by
        intro i hi
        exact HY.out.ints i (by rw [List.length_map, hxL_length]; exact hi)) 9 Tryz.underlying9
      rw [strOf] at hcv
      go_wp2
      go_ret
      exact ⟨rfl, HB.out⟩
end Go.Proofs.YtioabjniipkncaaGreatDoor.Rc
