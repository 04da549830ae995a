/-
  The statements' name.
-/
import Derived.Test.YtfeljihbaekfmaaRfLp
import Derived.Laws.BytesArg
namespace Go.Proofs.Ytfeljihbaekfmaa.Rf
open Go.RowKit Go.Proofs.Ytfeljihbaekfmaa.Fo

theorem nm_str (k : Nat) : (⟨#[110]⟩ : ByteArray) ++ strOfNums [(97 + (k : Int) / 26 % 26), (97 + (k : Int) % 26)] = nm k := by
  have e1 : (97 + (k : Int) / 26 % 26).toNat = 97 + k / 26 % 26 := by omega
  have e2 : (97 + (k : Int) % 26).toNat = 97 + k % 26 := by omega
  apply ByteArray.ext
  rw [ByteArray.data_append]
  simp only [strOfNums, nm, nmL, List.map_cons, List.map_nil, e1, e2]
  rfl
theorem name_any (k : Nat) (hk : k < 300) (w : World) : Calls Try.prog 23 #[.int .i64 k] w fun e w' => e = .returned (.string (nm k)) ∧ Below w.heap.size w w' := by
  have hcv := run_convert_bytes_arg (P := Try.prog) (w.alloc (.cells #[.int .u8 (97 + (k : Int) / 26 % 26), .int .u8 (97 + (k : Int) % 26)] 5)) 78 5 Try.underlying78 Try.underlying5 w.heap.size 0 2 2 [(97 + (k : Int) / 26 % 26), (97 + (k : Int) % 26)] rfl (by
    intro i hi
    rw [Nat.zero_add, cell_block (heap_alloc_new w _)]
    match i, hi with
    | 0, _ => rfl
    | 1, _ => rfl) 9 Try.underlying9
  have HN := Lib.hid (nm_str k)
  obtain ⟨s, hs⟩ : ∃ s, strOfNums [(97 + (k : Int) / 26 % 26), (97 + (k : Int) % 26)] = s := ⟨_, rfl⟩
  rw [hs] at hcv HN
  have hz : s.size = 2 := by rw [← hs]; rfl
  have HZ := Lib.hid hz
  clear hs
  go_enter Try.func23, Try.ntmps23
  go_wp2
  go_ret
  exact ⟨ret_str HN.out, by go_grown⟩
theorem tn_str (k : Nat) : (⟨#[116]⟩ : ByteArray) ++ nm k = tn k := by
  apply ByteArray.ext
  rw [ByteArray.data_append]
  rfl
theorem rn_str (k : Nat) : (⟨#[114]⟩ : ByteArray) ++ nm k = rn k := by
  apply ByteArray.ext
  rw [ByteArray.data_append]
  rfl
end Go.Proofs.Ytfeljihbaekfmaa.Rf
