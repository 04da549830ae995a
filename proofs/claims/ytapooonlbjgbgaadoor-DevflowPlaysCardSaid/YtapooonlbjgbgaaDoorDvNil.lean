/-
  Records that New did not return: they have no flows.
-/
import Derived.Test.YtapooonlbjgbgaaDoorDvAl
namespace Go.Proofs.YtapooonlbjgbgaaDoor.Dv
open Go.RowKit Go.Proofs.YtapooonlbjgbgaaDoor.Fo Go.Proofs.YtapooonlbjgbgaaDoor.Rf

/-- A record without flows. -/
def NoF (w : World) (p : Value) : Prop := p = .pointer none ∨ ∃ q, p = .pointer (some ⟨q, 0, none⟩) ∧ q < w.heap.size ∧ w.cell? ⟨q, 2, none⟩ = some (.map none)
theorem NoF.below {w w' : World} {p : Value} (h : NoF w p) (hb : Below w.heap.size w w') : NoF w' p := by
  rcases h with h | ⟨q, h1, hl, h2⟩
  · exact Or.inl h
  · exact Or.inr ⟨q, h1, Nat.lt_of_lt_of_le hl hb.size, (bkeep hb hl _).trans h2⟩
theorem ready_no {p : Value} {w : World} (h : NoF w p) : Calls Tryd.prog 47 #[p] w fun e w' => e = .returned (.bool false) ∧ w = w' := by
  rcases h with rfl | ⟨q, rfl, hl, h2⟩
  · go_enter Tryd.func47, Tryd.ntmps47
    go_wp2
    go_ret
    exact ⟨rfl, rfl⟩
  · have hq : (binOp .neq 64 (.map none) (.map none)).run Tryd.prog w = .ok (.bool false) w := run_neq_map_nil w _ _ _ _ map1
    go_enter Tryd.func47, Tryd.ntmps47
    go_wp2
    go_ret
    exact ⟨rfl, rfl⟩
theorem find_no {p : Value} {w : World} (h : NoF w p) (u : Bs) (now : Int) : Calls Tryd.prog 59 #[p, .string u, .int .i64 now] w fun e w' => e = .returned (.tuple #[.pointer none, .int .i64 1]) ∧ w = w' := by
  have H := Lib.hid h
  clear h
  go_enter Tryd.func59, Tryd.ntmps59
  go_wp2_with fail
  refine (ready_no H.out).mono ?_
  rintro e wx ⟨rfl, rfl⟩
  go_wp2
  go_ret2
  exact ⟨rfl, rfl⟩
theorem pen_no {p : Value} {w : World} (h : NoF w p) (u : Bs) (now : Int) : Calls Tryd.prog 19 #[p, .string u, .int .i64 now] w fun e w' => e = .returned (.tuple #[.string eB, .slice none 0 0, .int .i64 1]) ∧ w = w' := by
  have H := Lib.hid h
  clear h
  go_enter Tryd.func19, Tryd.ntmps19
  go_wp2_with fail
  refine (find_no H.out u now).mono ?_
  rintro e wx ⟨rfl, rfl⟩
  go_wp2
  go_ret3
  exact ⟨rfl, rfl⟩
theorem den_no {p : Value} {w : World} (h : NoF w p) (u : Bs) (now : Int) : Calls Tryd.prog 24 #[p, .string u, .int .i64 now] w fun e w' => e = .returned (.int .i64 1) ∧ w = w' := by
  have H := Lib.hid h
  clear h
  go_enter Tryd.func24, Tryd.ntmps24
  go_wp2_with fail
  refine (find_no H.out u now).mono ?_
  rintro e wx ⟨rfl, rfl⟩
  go_wp2
  go_ret
  exact ⟨rfl, rfl⟩
theorem itv_no {p : Value} {w : World} (h : NoF w p) (d : Bs) : Calls Tryd.prog 29 #[p, .string d] w fun e w' => e = .returned (.int .i64 0) ∧ w = w' := by
  have H := Lib.hid h
  clear h
  go_enter Tryd.func29, Tryd.ntmps29
  go_wp2_with fail
  refine (ready_no H.out).mono ?_
  rintro e wx ⟨rfl, rfl⟩
  go_wp2
  go_ret
  exact ⟨rfl, rfl⟩
theorem pur_no {p : Value} {w : World} (h : NoF w p) (now : Int) : Calls Tryd.prog 31 #[p, .int .i64 now] w fun e w' => e = .returned (.int .i64 0) ∧ Below w.heap.size w w' := by
  have H := Lib.hid h
  obtain ⟨w0, hw0⟩ : ∃ w', w' = w.alloc (.cells #[.int .i64 now] 3) := ⟨_, rfl⟩
  have HB0 := Lib.hid (show Below w.heap.size w w0 by rw [hw0]; go_grown)
  clear h
  go_enter Tryd.func31, Tryd.ntmps31
  go_upto_region 1 with fail
  rw [← hw0]
  clear hw0
  go_wp2_with fail
  refine (ready_no (H.out.below HB0.out)).mono ?_
  rintro e wx ⟨rfl, rfl⟩
  go_wp2
  go_ret
  exact ⟨rfl, HB0.out⟩
theorem sta_no {p : Value} {w : World} (h : NoF w p) (d u c : Bs) (A : Option Addr) (n cc : Nat) (now : Int) : Calls Tryd.prog 17 #[p, .string d, .string u, .string c, .slice A n cc, .int .i64 now] w fun e w' => e = .returned (.int .i64 1) ∧ Below w.heap.size w w' := by
  have H := Lib.hid h
  clear h
  go_enter Tryd.func17, Tryd.ntmps17
  go_upto_region 1 with fail
  obtain ⟨w0, hw0⟩ : ∃ w', w' = (w.alloc (.cells #[.string d] 9)).alloc (.cells #[.int .i64 now] 3) := ⟨_, rfl⟩
  have HB0 := Lib.hid (show Below w.heap.size w w0 by rw [hw0]; go_grown)
  rw [← hw0]
  clear hw0
  go_wp2_with fail
  refine (ready_no (H.out.below HB0.out)).mono ?_
  rintro e wx ⟨rfl, rfl⟩
  go_wp2
  go_ret
  exact ⟨rfl, HB0.out⟩
theorem apr_no {p : Value} {w : World} (h : NoF w p) (u : Bs) (g : Gr) (A : Option Addr) (dd : Nat) (now : Int) : Calls Tryd.prog 22 #[p, .string u, .agg #[.string g.user, .string g.client, .string g.tenant, .string g.session, .string g.redirect, .string g.nonce, .string g.challenge, .int .i64 g.method, .slice A g.scopes.length dd, .int .i64 g.auth, .int .i64 g.level], .int .i64 now] w fun e w' => e = .returned (.int .i64 1) ∧ Below w.heap.size w w' := by
  have H := Lib.hid h
  clear h
  go_enter Tryd.func22, Tryd.ntmps22
  go_upto_region 1 with fail
  obtain ⟨w0, hw0⟩ : ∃ w', w' = w.alloc (.cells #[.string g.user, .string g.client, .string g.tenant, .string g.session, .string g.redirect, .string g.nonce, .string g.challenge, .int .i64 g.method, .slice A g.scopes.length dd, .int .i64 g.auth, .int .i64 g.level] 39) := ⟨_, rfl⟩
  have HB0 := Lib.hid (show Below w.heap.size w w0 by rw [hw0]; go_grown)
  rw [← hw0]
  clear hw0
  go_wp2_with fail
  refine (find_no (H.out.below HB0.out) u now).mono ?_
  rintro e wx ⟨rfl, rfl⟩
  go_wp2
  go_ret
  exact ⟨rfl, HB0.out⟩
theorem pol_no {p : Value} {w : World} (h : NoF w p) (d c : Bs) (now : Int) : Calls Tryd.prog 26 #[p, .string d, .string c, .int .i64 now] w fun e w' => e = .returned (.tuple #[.agg #[.string ⟨#[]⟩, .string ⟨#[]⟩, .string ⟨#[]⟩, .string ⟨#[]⟩, .string ⟨#[]⟩, .string ⟨#[]⟩, .string ⟨#[]⟩, .int .i64 0, .slice none 0 0, .int .i64 0, .int .i64 0], .int .i64 1]) ∧ Below w.heap.size w w' := by
  have H := Lib.hid h
  clear h
  go_enter Tryd.func26, Tryd.ntmps26
  go_upto_region 1 with fail
  obtain ⟨w0, hw0⟩ : ∃ w', w' = w.alloc (.cells #[.string ⟨#[]⟩, .string ⟨#[]⟩, .string ⟨#[]⟩, .string ⟨#[]⟩, .string ⟨#[]⟩, .string ⟨#[]⟩, .string ⟨#[]⟩, .int .i64 0, .slice none 0 0, .int .i64 0, .int .i64 0] 39) := ⟨_, rfl⟩
  have HB0 := Lib.hid (show Below w.heap.size w w0 by rw [hw0]; go_grown)
  have HX := Lib.hid (show w0.heap[w.heap.size]? = some (.cells #[.string ⟨#[]⟩, .string ⟨#[]⟩, .string ⟨#[]⟩, .string ⟨#[]⟩, .string ⟨#[]⟩, .string ⟨#[]⟩, .string ⟨#[]⟩, .int .i64 0, .slice none 0 0, .int .i64 0, .int .i64 0] 39 (0, 0)) by rw [hw0]; exact heap_alloc_new _ _)
  rw [← hw0]
  clear hw0
  go_wp2_with fail
  refine (ready_no (H.out.below HB0.out)).mono ?_
  rintro e wx ⟨rfl, rfl⟩
  go_wp2_with (refine wpList_store_row rfl 39 (.tmp 8) (.tmp 14) rfl w.heap.size #[.string ⟨#[]⟩, .string ⟨#[]⟩, .string ⟨#[]⟩, .string ⟨#[]⟩, .string ⟨#[]⟩, .string ⟨#[]⟩, .string ⟨#[]⟩, .int .i64 0, .slice none 0 0, .int .i64 0, .int .i64 0] rfl rfl 39 _ HX.out (by kernel_rfl) rfl (by kernel_rfl) ?_)
  obtain ⟨y0, y1, y2, y3, y4, y5, y6, y7, y8, y9, y10⟩ := cells11 (setRow_heap w0 w.heap.size _ #[.string ⟨#[]⟩, .string ⟨#[]⟩, .string ⟨#[]⟩, .string ⟨#[]⟩, .string ⟨#[]⟩, .string ⟨#[]⟩, .string ⟨#[]⟩, .int .i64 0, .slice none 0 0, .int .i64 0, .int .i64 0] _ _ HX.out)
  refine bodyPost_ret (v := .tuple #[.agg #[.string ⟨#[]⟩, .string ⟨#[]⟩, .string ⟨#[]⟩, .string ⟨#[]⟩, .string ⟨#[]⟩, .string ⟨#[]⟩, .string ⟨#[]⟩, .int .i64 0, .slice none 0 0, .int .i64 0, .int .i64 0], .int .i64 1]) (by simp [results, Tryd.results26, go_sem, y0, y1, y2, y3, y4, y5, y6, y7, y8, y9, y10]) rfl ?_
  rw [setRow_self _ _ _ _ _ HX.out]
  exact ⟨rfl, HB0.out⟩
end Go.Proofs.YtapooonlbjgbgaaDoor.Dv
