/-
  The program's find, Redeemed, Attacked.
-/
import Derived.Test.YtioabjniipkncaaGreatDoorRcM
import Derived.Laws.CopyRow
import Derived.Laws.CopyOwn
import Derived.Laws.Tables
namespace Go.Proofs.YtioabjniipkncaaGreatDoor.Rc
open Go.RowKit Go.Proofs.YtioabjniipkncaaGreatDoor.Fo Go.Proofs.YtioabjniipkncaaGreatDoor.Rf Go.Maps

theorem cells15 {w : World} {b : Nat} {v0 v1 v2 v3 v4 v5 v6 v7 v8 v9 v10 v11 v12 v13 v14 : Value} {t : TypeId} {fr : Nat × Nat} (h : w.heap[b]? = some (.cells #[v0, v1, v2, v3, v4, v5, v6, v7, v8, v9, v10, v11, v12, v13, v14] t fr)) : w.cell? ⟨b, 0, none⟩ = some v0 ∧ w.cell? ⟨b, 1, none⟩ = some v1 ∧ w.cell? ⟨b, 2, none⟩ = some v2 ∧ w.cell? ⟨b, 3, none⟩ = some v3 ∧ w.cell? ⟨b, 4, none⟩ = some v4 ∧ w.cell? ⟨b, 5, none⟩ = some v5 ∧ w.cell? ⟨b, 6, none⟩ = some v6 ∧ w.cell? ⟨b, 7, none⟩ = some v7 ∧ w.cell? ⟨b, 8, none⟩ = some v8 ∧ w.cell? ⟨b, 9, none⟩ = some v9 ∧ w.cell? ⟨b, 10, none⟩ = some v10 ∧ w.cell? ⟨b, 11, none⟩ = some v11 ∧ w.cell? ⟨b, 12, none⟩ = some v12 ∧ w.cell? ⟨b, 13, none⟩ = some v13 ∧ w.cell? ⟨b, 14, none⟩ = some v14 :=
  ⟨cell_block h 0, cell_block h 1, cell_block h 2, cell_block h 3, cell_block h 4, cell_block h 5, cell_block h 6, cell_block h 7, cell_block h 8, cell_block h 9, cell_block h 10, cell_block h 11, cell_block h 12, cell_block h 13, cell_block h 14⟩
theorem cells11 {w : World} {b : Nat} {v0 v1 v2 v3 v4 v5 v6 v7 v8 v9 v10 : Value} {t : TypeId} {fr : Nat × Nat} (h : w.heap[b]? = some (.cells #[v0, v1, v2, v3, v4, v5, v6, v7, v8, v9, v10] t fr)) : w.cell? ⟨b, 0, none⟩ = some v0 ∧ w.cell? ⟨b, 1, none⟩ = some v1 ∧ w.cell? ⟨b, 2, none⟩ = some v2 ∧ w.cell? ⟨b, 3, none⟩ = some v3 ∧ w.cell? ⟨b, 4, none⟩ = some v4 ∧ w.cell? ⟨b, 5, none⟩ = some v5 ∧ w.cell? ⟨b, 6, none⟩ = some v6 ∧ w.cell? ⟨b, 7, none⟩ = some v7 ∧ w.cell? ⟨b, 8, none⟩ = some v8 ∧ w.cell? ⟨b, 9, none⟩ = some v9 ∧ w.cell? ⟨b, 10, none⟩ = some v10 :=
  ⟨cell_block h 0, cell_block h 1, cell_block h 2, cell_block h 3, cell_block h 4, cell_block h 5, cell_block h 6, cell_block h 7, cell_block h 8, cell_block h 9, cell_block h 10⟩
theorem blk_lt {w : World} {k : Nat} {o : Obj} (h : w.heap[k]? = some o) : k < w.heap.size := by
  rcases Nat.lt_or_ge k w.heap.size with h1 | h1
  · exact h1
  · rw [Array.getElem?_eq_none h1] at h; cases h
/-- What find answers. -/
def FindIs (w : World) (o : Option Cd) (e : Ending) (w' : World) : Prop :=
  (match o with
  | none => e = .returned (.agg #[.string ⟨#[]⟩, .string ⟨#[]⟩, .string ⟨#[]⟩, .string ⟨#[]⟩, .string ⟨#[]⟩, .string ⟨#[]⟩, .string ⟨#[]⟩, .int .i64 0, .slice none 0 0, .int .i64 0, .int .i64 0, .int .i64 0, .bool false, .bool false, .bool false])
  | some x => ∃ A c, e = .returned (.agg #[.string x.g.user, .string x.g.client, .string x.g.tenant, .string x.g.session, .string x.g.redirect, .string x.g.nonce, .string x.g.challenge, .int .i64 x.g.method, (.slice A x.g.scopes.length c), .int .i64 x.g.auth, .int .i64 x.g.level, .int .i64 x.fin, .bool x.used, .bool x.att, .bool x.drp])) ∧ Below w.heap.size w w'
set_option maxRecDepth 100000 in
set_option maxHeartbeats 4000000 in
theorem find_any {w : World} {S : Nat → Prop} {F : Nat} {st : Ct} (h : RepE w S F st) (t : Bs) (ht : t.size ≤ 100000) :
    Calls Tryz.prog 40 #[.pointer (some ⟨F, 0, none⟩), .string t] w (FindIs w (fndC st t)) := by
  obtain ⟨I, M, pl, h⟩ := h
  have H := Lib.hid (h.below (w' := w.alloc (.cells #[.string ⟨#[]⟩, .string ⟨#[]⟩, .string ⟨#[]⟩, .string ⟨#[]⟩, .string ⟨#[]⟩, .string ⟨#[]⟩, .string ⟨#[]⟩, .int .i64 0, .slice none 0 0, .int .i64 0, .int .i64 0, .int .i64 0, .bool false, .bool false, .bool false] 66)) (by go_grown))
  cases hi : cdI st.l t with
  | none =>
    have HR := Lib.hid (fnd_none hi)
    have hr := look_no H.out t ht hi
    have c1 := H.out.c1
    clear h hi
    go_enter Tryz.func40, Tryz.ntmps40
    go_wp2_with (first | (go_at_call 33; refine (made_yes H.out).mono ?_; rintro e w1 ⟨rfl, rfl⟩) | (refine wpList_store_row rfl 66 (.tmp 4) (.tmp 17) rfl w.heap.size #[.string ⟨#[]⟩, .string ⟨#[]⟩, .string ⟨#[]⟩, .string ⟨#[]⟩, .string ⟨#[]⟩, .string ⟨#[]⟩, .string ⟨#[]⟩, .int .i64 0, .slice none 0 0, .int .i64 0, .int .i64 0, .int .i64 0, .bool false, .bool false, .bool false] rfl rfl 66 _ (heap_alloc_new _ _) (by kernel_rfl) rfl (by kernel_rfl) ?_))
    obtain ⟨y0, y1, y2, y3, y4, y5, y6, y7, y8, y9, y10, y11, y12, y13, y14⟩ := cells15 (setRow_heap _ w.heap.size _ #[.string ⟨#[]⟩, .string ⟨#[]⟩, .string ⟨#[]⟩, .string ⟨#[]⟩, .string ⟨#[]⟩, .string ⟨#[]⟩, .string ⟨#[]⟩, .int .i64 0, .slice none 0 0, .int .i64 0, .int .i64 0, .int .i64 0, .bool false, .bool false, .bool false] _ _ (heap_alloc_new w (.cells #[.string ⟨#[]⟩, .string ⟨#[]⟩, .string ⟨#[]⟩, .string ⟨#[]⟩, .string ⟨#[]⟩, .string ⟨#[]⟩, .string ⟨#[]⟩, .int .i64 0, .slice none 0 0, .int .i64 0, .int .i64 0, .int .i64 0, .bool false, .bool false, .bool false] 66)))
    refine bodyPost_ret (v := .agg #[.string ⟨#[]⟩, .string ⟨#[]⟩, .string ⟨#[]⟩, .string ⟨#[]⟩, .string ⟨#[]⟩, .string ⟨#[]⟩, .string ⟨#[]⟩, .int .i64 0, .slice none 0 0, .int .i64 0, .int .i64 0, .int .i64 0, .bool false, .bool false, .bool false]) (by simp [results, Tryz.results40, go_sem, y0, y1, y2, y3, y4, y5, y6, y7, y8, y9, y10, y11, y12, y13, y14]) rfl ?_
    rw [HR.out]
    exact ⟨rfl, below_setRow (by go_grown) (Nat.le_refl _) _⟩
  | some i =>
    obtain ⟨x, hx, hxt⟩ := cdI_some hi
    have HR := Lib.hid (fnd_some hi hx)
    obtain ⟨b, hb⟩ := pl_at h.hl hx
    have hr := look_at H.out hb hxt
    have c1 := H.out.c1
    obtain ⟨A, c, hblk, _, _⟩ := H.out.hb _ (List.mem_of_getElem? hb)
    simp only at hblk
    have k0 := cell_block hblk 0
    have k1 := cell_block hblk 1
    have k2 := cell_block hblk 2
    have k3 := cell_block hblk 3
    have k4 := cell_block hblk 4
    have k5 := cell_block hblk 5
    have k6 := cell_block hblk 6
    have k7 := cell_block hblk 7
    have k8 := cell_block hblk 8
    have k9 := cell_block hblk 9
    have k10 := cell_block hblk 10
    have k11 := cell_block hblk 11
    have k12 := cell_block hblk 12
    have k13 := cell_block hblk 13
    have k14 := cell_block hblk 14
    simp only [List.getElem?_toArray, List.getElem?_cons_zero, List.getElem?_cons_succ] at k0 k1 k2 k3 k4 k5 k6 k7 k8 k9 k10 k11 k12 k13 k14
    clear h hi hx hxt hb hblk
    go_enter Tryz.func40, Tryz.ntmps40
    go_wp2_with (first | (go_at_call 33; refine (made_yes H.out).mono ?_; rintro e w1 ⟨rfl, rfl⟩) | (refine wpList_store_row rfl 66 (.tmp 4) (.tmp 25) rfl w.heap.size #[.string x.g.user, .string x.g.client, .string x.g.tenant, .string x.g.session, .string x.g.redirect, .string x.g.nonce, .string x.g.challenge, .int .i64 x.g.method, (.slice A x.g.scopes.length c), .int .i64 x.g.auth, .int .i64 x.g.level, .int .i64 x.fin, .bool x.used, .bool x.att, .bool x.drp] rfl rfl 66 _ (heap_alloc_new _ _) (by kernel_rfl) rfl (by simp [Value.oneCell']) ?_))
    obtain ⟨y0, y1, y2, y3, y4, y5, y6, y7, y8, y9, y10, y11, y12, y13, y14⟩ := cells15 (setRow_heap _ w.heap.size _ #[.string x.g.user, .string x.g.client, .string x.g.tenant, .string x.g.session, .string x.g.redirect, .string x.g.nonce, .string x.g.challenge, .int .i64 x.g.method, (.slice A x.g.scopes.length c), .int .i64 x.g.auth, .int .i64 x.g.level, .int .i64 x.fin, .bool x.used, .bool x.att, .bool x.drp] _ _ (heap_alloc_new w (.cells #[.string ⟨#[]⟩, .string ⟨#[]⟩, .string ⟨#[]⟩, .string ⟨#[]⟩, .string ⟨#[]⟩, .string ⟨#[]⟩, .string ⟨#[]⟩, .int .i64 0, .slice none 0 0, .int .i64 0, .int .i64 0, .int .i64 0, .bool false, .bool false, .bool false] 66)))
    refine bodyPost_ret (v := .agg #[.string x.g.user, .string x.g.client, .string x.g.tenant, .string x.g.session, .string x.g.redirect, .string x.g.nonce, .string x.g.challenge, .int .i64 x.g.method, (.slice A x.g.scopes.length c), .int .i64 x.g.auth, .int .i64 x.g.level, .int .i64 x.fin, .bool x.used, .bool x.att, .bool x.drp]) (by simp [results, Tryz.results40, go_sem, y0, y1, y2, y3, y4, y5, y6, y7, y8, y9, y10, y11, y12, y13, y14]) rfl ?_
    rw [HR.out]
    exact ⟨⟨A, c, rfl⟩, below_setRow (by go_grown) (Nat.le_refl _) _⟩
theorem field_used (w : World) (v0 v1 v2 v3 v4 v5 v6 v7 v8 v9 v10 v11 v12 v13 v14 : Value) : (Instr.field 66 (.agg #[v0, v1, v2, v3, v4, v5, v6, v7, v8, v9, v10, v11, v12, v13, v14]) 2).run Tryz.prog w = .ok v12 w := by kernel_rfl
theorem field_att (w : World) (v0 v1 v2 v3 v4 v5 v6 v7 v8 v9 v10 v11 v12 v13 v14 : Value) : (Instr.field 66 (.agg #[v0, v1, v2, v3, v4, v5, v6, v7, v8, v9, v10, v11, v12, v13, v14]) 3).run Tryz.prog w = .ok v13 w := by kernel_rfl
set_option maxRecDepth 100000 in
set_option maxHeartbeats 4000000 in
theorem used_any {w : World} {S : Nat → Prop} {F : Nat} {st : Ct} (h : RepE w S F st) (t : Bs) (ht : t.size ≤ 100000) {v : Bool} (hv : usedS st t = v) :
    Calls Tryz.prog 19 #[.pointer (some ⟨F, 0, none⟩), .string t] w fun e w' => e = .returned (.bool v) ∧ Below w.heap.size w w' := by
  subst hv
  have hf := find_any h t ht
  unfold usedS
  generalize fndC st t = o at *
  have hfd := field_used
  have HF := Lib.hid hf
  clear hf h
  cases o with
  | none =>
    go_enter Tryz.func19, Tryz.ntmps19
    go_wp2_with fail
    refine HF.out.mono ?_
    rintro e w1 ⟨he, hb⟩
    subst he
    have HB := Lib.hid hb
    clear hb
    go_wp2
    go_ret
    exact ⟨rfl, HB.out⟩
  | some x =>
    go_enter Tryz.func19, Tryz.ntmps19
    go_wp2_with fail
    refine HF.out.mono ?_
    rintro e w1 ⟨⟨A, c, he⟩, hb⟩
    subst he
    have HB := Lib.hid hb
    clear hb
    go_wp2
    go_ret
    exact ⟨rfl, HB.out⟩
set_option maxRecDepth 100000 in
set_option maxHeartbeats 4000000 in
theorem att_any {w : World} {S : Nat → Prop} {F : Nat} {st : Ct} (h : RepE w S F st) (t : Bs) (ht : t.size ≤ 100000) {v : Bool} (hv : attS st t = v) :
    Calls Tryz.prog 20 #[.pointer (some ⟨F, 0, none⟩), .string t] w fun e w' => e = .returned (.bool v) ∧ Below w.heap.size w w' := by
  subst hv
  have hf := find_any h t ht
  unfold attS
  generalize fndC st t = o at *
  have hfd := field_att
  have HF := Lib.hid hf
  clear hf h
  cases o with
  | none =>
    go_enter Tryz.func20, Tryz.ntmps20
    go_wp2_with fail
    refine HF.out.mono ?_
    rintro e w1 ⟨he, hb⟩
    subst he
    have HB := Lib.hid hb
    clear hb
    go_wp2
    go_ret
    exact ⟨rfl, HB.out⟩
  | some x =>
    go_enter Tryz.func20, Tryz.ntmps20
    go_wp2_with fail
    refine HF.out.mono ?_
    rintro e w1 ⟨⟨A, c, he⟩, hb⟩
    subst he
    have HB := Lib.hid hb
    clear hb
    go_wp2
    go_ret
    exact ⟨rfl, HB.out⟩
end Go.Proofs.YtioabjniipkncaaGreatDoor.Rc
