/-
  The grant of the examples.
-/
import Derived.Test.YtioabjniipkncaaGreatDoorRcY3
namespace Go.Proofs.YtioabjniipkncaaGreatDoor.Rc
open Go.RowKit Go.Proofs.YtioabjniipkncaaGreatDoor.Fo Go.Proofs.YtioabjniipkncaaGreatDoor.Rf Go.Maps

def gEx : Gr := ⟨⟨#[117]⟩, ⟨#[97, 112, 112]⟩, ⟨#[116]⟩, ⟨#[115]⟩, ⟨#[104, 116, 116, 112, 115, 58, 47, 47, 97]⟩, eB, eB, 0, [⟨#[109, 97, 105, 108]⟩], 0, 0⟩
set_option maxRecDepth 100000 in
theorem grant_any (w : World) : Calls Tryz.prog 16 #[] w fun e w' => ∃ b, w.heap.size ≤ b ∧ e = .returned (.agg #[.string ⟨#[117]⟩, .string ⟨#[97, 112, 112]⟩, .string ⟨#[116]⟩, .string ⟨#[115]⟩, .string ⟨#[104, 116, 116, 112, 115, 58, 47, 47, 97]⟩, .string ⟨#[]⟩, .string ⟨#[]⟩, .int .i64 0, .slice (some ⟨b, 0, none⟩) 1 1, .int .i64 0, .int .i64 0]) ∧ Ss w' (some ⟨b, 0, none⟩) 1 1 gEx.scopes ∧ Below w.heap.size w w' := by
  have HX := Lib.hid (show ((w.alloc (.cells #[.string ⟨#[]⟩, .string ⟨#[]⟩, .string ⟨#[]⟩, .string ⟨#[]⟩, .string ⟨#[]⟩, .string ⟨#[]⟩, .string ⟨#[]⟩, .int .i64 0, .slice none 0 0, .int .i64 0, .int .i64 0] 36)).alloc (.cells #[.string ⟨#[109, 97, 105, 108]⟩] 9)).heap[w.heap.size + 1]? = some (.cells #[.string ⟨#[109, 97, 105, 108]⟩] 9 (0, 0)) by
    have e : w.heap.size + 1 = (w.alloc (.cells #[.string ⟨#[]⟩, .string ⟨#[]⟩, .string ⟨#[]⟩, .string ⟨#[]⟩, .string ⟨#[]⟩, .string ⟨#[]⟩, .string ⟨#[]⟩, .int .i64 0, .slice none 0 0, .int .i64 0, .int .i64 0] 36)).heap.size := by simp
    rw [e]
    exact heap_alloc_new _ _)
  have HZ := Lib.hid (show ((w.alloc (.cells #[.string ⟨#[]⟩, .string ⟨#[]⟩, .string ⟨#[]⟩, .string ⟨#[]⟩, .string ⟨#[]⟩, .string ⟨#[]⟩, .string ⟨#[]⟩, .int .i64 0, .slice none 0 0, .int .i64 0, .int .i64 0] 36)).alloc (.cells #[.string ⟨#[109, 97, 105, 108]⟩] 9)).heap[w.heap.size]? = some (.cells #[.string ⟨#[]⟩, .string ⟨#[]⟩, .string ⟨#[]⟩, .string ⟨#[]⟩, .string ⟨#[]⟩, .string ⟨#[]⟩, .string ⟨#[]⟩, .int .i64 0, .slice none 0 0, .int .i64 0, .int .i64 0] 36 (0, 0)) from (Below.heap_alloc _ _ _ (by simp)).trans (heap_alloc_new _ _))
  go_enter Tryz.func16, Tryz.ntmps16
  go_wp2_with (refine wpList_store_row rfl 36 (.tmp 0) (.tmp 2) rfl w.heap.size #[.string ⟨#[117]⟩, .string ⟨#[97, 112, 112]⟩, .string ⟨#[116]⟩, .string ⟨#[115]⟩, .string ⟨#[104, 116, 116, 112, 115, 58, 47, 47, 97]⟩, .string ⟨#[]⟩, .string ⟨#[]⟩, .int .i64 0, .slice (some ⟨w.heap.size + 1, 0, none⟩) 1 1, .int .i64 0, .int .i64 0] rfl rfl 36 _ HZ.out (by kernel_rfl) rfl (by simp [Value.oneCell']) ?_)
  obtain ⟨y0, y1, y2, y3, y4, y5, y6, y7, y8, y9, y10⟩ := cells11 (setRow_heap _ w.heap.size _ #[.string ⟨#[117]⟩, .string ⟨#[97, 112, 112]⟩, .string ⟨#[116]⟩, .string ⟨#[115]⟩, .string ⟨#[104, 116, 116, 112, 115, 58, 47, 47, 97]⟩, .string ⟨#[]⟩, .string ⟨#[]⟩, .int .i64 0, .slice (some ⟨w.heap.size + 1, 0, none⟩) 1 1, .int .i64 0, .int .i64 0] _ _ HZ.out)
  refine bodyPost_ret (v := .agg #[.string ⟨#[117]⟩, .string ⟨#[97, 112, 112]⟩, .string ⟨#[116]⟩, .string ⟨#[115]⟩, .string ⟨#[104, 116, 116, 112, 115, 58, 47, 47, 97]⟩, .string ⟨#[]⟩, .string ⟨#[]⟩, .int .i64 0, .slice (some ⟨w.heap.size + 1, 0, none⟩) 1 1, .int .i64 0, .int .i64 0]) (by simp [results, Tryz.results16, go_sem, y0, y1, y2, y3, y4, y5, y6, y7, y8, y9, y10]) rfl ?_
  refine ⟨w.heap.size + 1, by omega, rfl, ss_row (l := gEx.scopes) ((setRow_other _ _ _ _ (by omega)).trans HX.out), below_setRow (by go_grown) (Nat.le_refl _) _⟩
end Go.Proofs.YtioabjniipkncaaGreatDoor.Rc
