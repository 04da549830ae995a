/-
  own, Pending, Deny.
-/
import Derived.Test.YtapooonlbjgbgaaDoorDvO
import Derived.Deep.MidRow
import Derived.Laws.CopyRow
import Derived.Laws.CopyOwn
import Derived.Laws.Tables
namespace Go.Proofs.YtapooonlbjgbgaaDoor.Dv
open Go.RowKit Go.Proofs.YtapooonlbjgbgaaDoor.Fo Go.Proofs.YtapooonlbjgbgaaDoor.Rf Go.Maps

theorem cells11 {w : World} {b : Nat} {v0 v1 v2 v3 v4 v5 v6 v7 v8 v9 v10 : Value} {t : TypeId} {fr : Nat × Nat} (h : w.heap[b]? = some (.cells #[v0, v1, v2, v3, v4, v5, v6, v7, v8, v9, v10] t fr)) : w.cell? ⟨b, 0, none⟩ = some v0 ∧ w.cell? ⟨b, 1, none⟩ = some v1 ∧ w.cell? ⟨b, 2, none⟩ = some v2 ∧ w.cell? ⟨b, 3, none⟩ = some v3 ∧ w.cell? ⟨b, 4, none⟩ = some v4 ∧ w.cell? ⟨b, 5, none⟩ = some v5 ∧ w.cell? ⟨b, 6, none⟩ = some v6 ∧ w.cell? ⟨b, 7, none⟩ = some v7 ∧ w.cell? ⟨b, 8, none⟩ = some v8 ∧ w.cell? ⟨b, 9, none⟩ = some v9 ∧ w.cell? ⟨b, 10, none⟩ = some v10 :=
  ⟨cell_block h 0, cell_block h 1, cell_block h 2, cell_block h 3, cell_block h 4, cell_block h 5, cell_block h 6, cell_block h 7, cell_block h 8, cell_block h 9, cell_block h 10⟩
theorem own_ge {w : World} {base : Nat} {A : Option Addr} {n c : Nat} {l : List Bs} (h : Own1 w base (.slice A n c) l) (a : Addr) (ha : A = some a) : base ≤ a.block := by
  rcases h.2 with ⟨hv, _⟩ | ⟨g, cap, cur, hv, hg, _⟩
  · injection hv with e1; rw [e1] at ha; cases ha
  · injection hv with e1; rw [e1] at ha; injection ha with ha; subst ha; exact hg
/-- A slice of strings in blocks not below a base. -/
def Fresh (w : World) (base : Nat) (B : Option Addr) (d : Nat) (l : List Bs) : Prop := Ss w B l.length d l ∧ ∀ a, B = some a → 0 < l.length → base ≤ a.block
theorem Fresh.mono {w : World} {base base' : Nat} {B : Option Addr} {d : Nat} {l : List Bs} (h : Fresh w base B d l) (hb : base' ≤ base) : Fresh w base' B d l := ⟨h.1, fun a ha hn => Nat.le_trans hb (h.2 a ha hn)⟩
theorem Fresh.below {w w' : World} {base : Nat} {B : Option Addr} {d : Nat} {l : List Bs} (h : Fresh w base B d l) (hb : Below w.heap.size w w') : Fresh w' base B d l := ⟨h.1.below hb, h.2⟩
theorem fresh_of {w : World} {base d : Nat} {B : Option Addr} {l : List Bs} (h : Own1 w base (.slice B l.length d) l) : Fresh w base B d l := ⟨h.ss.1, fun a ha _ => own_ge h a ha⟩
theorem fresh_nil (w : World) (base : Nat) : Fresh w base none 0 [] := ⟨Ss.nil _ _ _, fun a h => by cases h⟩
set_option maxRecDepth 100000 in
set_option maxHeartbeats 4000000 in
theorem own_any (w : World) (g : Gr) (A : Option Addr) (c : Nat) (hs : Ss w A g.scopes.length c g.scopes) (hn : g.scopes.length ≤ 100000) :
    Calls Tryd.prog 61 #[.agg #[.string g.user, .string g.client, .string g.tenant, .string g.session, .string g.redirect, .string g.nonce, .string g.challenge, .int .i64 g.method, .slice A g.scopes.length c, .int .i64 g.auth, .int .i64 g.level]] w fun e w' => ∃ B d, e = .returned (.agg #[.string g.user, .string g.client, .string g.tenant, .string g.session, .string g.redirect, .string g.nonce, .string g.challenge, .int .i64 g.method, .slice B g.scopes.length d, .int .i64 g.auth, .int .i64 g.level]) ∧ Fresh w' w.heap.size B d g.scopes ∧ Below w.heap.size w w' := by
  obtain ⟨w0, hw0⟩ : ∃ w0, w0 = (w.alloc (.cells #[.string g.user, .string g.client, .string g.tenant, .string g.session, .string g.redirect, .string g.nonce, .string g.challenge, .int .i64 g.method, .slice A g.scopes.length c, .int .i64 g.auth, .int .i64 g.level] 39)).alloc (.cells #[.string ⟨#[]⟩, .string ⟨#[]⟩, .string ⟨#[]⟩, .string ⟨#[]⟩, .string ⟨#[]⟩, .string ⟨#[]⟩, .string ⟨#[]⟩, .int .i64 0, .slice none 0 0, .int .i64 0, .int .i64 0] 39) := ⟨_, rfl⟩
  have HB0 := Lib.hid (show Below w.heap.size w w0 by rw [hw0]; go_grown)
  have HX := Lib.hid (show w0.heap[w.heap.size]? = some (.cells #[.string g.user, .string g.client, .string g.tenant, .string g.session, .string g.redirect, .string g.nonce, .string g.challenge, .int .i64 g.method, .slice A g.scopes.length c, .int .i64 g.auth, .int .i64 g.level] 39 (0, 0)) by rw [hw0, Below.heap_alloc _ _ _ (by simp)]; exact heap_alloc_new _ _)
  have HY := Lib.hid (show w0.heap[w.heap.size + 1]? = some (.cells #[.string ⟨#[]⟩, .string ⟨#[]⟩, .string ⟨#[]⟩, .string ⟨#[]⟩, .string ⟨#[]⟩, .string ⟨#[]⟩, .string ⟨#[]⟩, .int .i64 0, .slice none 0 0, .int .i64 0, .int .i64 0] 39 (0, 0)) by
    rw [hw0]
    have e : w.heap.size + 1 = (w.alloc (.cells #[.string g.user, .string g.client, .string g.tenant, .string g.session, .string g.redirect, .string g.nonce, .string g.challenge, .int .i64 g.method, .slice A g.scopes.length c, .int .i64 g.auth, .int .i64 g.level] 39)).heap.size := by simp
    rw [e]; exact heap_alloc_new _ _)
  have HSS := Lib.hid (hs.below HB0.out)
  clear hs
  go_enter Tryd.func61, Tryd.ntmps61
  go_upto_region 1 with fail
  rw [← hw0]
  clear hw0
  have k8 := cell_block HX.out 8
  simp only [List.getElem?_toArray, List.getElem?_cons_zero, List.getElem?_cons_succ] at k8
  go_wp2_with fail
  refine (clone_any A g.scopes.length c g.scopes w0 HSS.out hn).mono ?_
  rintro e w1 ⟨B, d, rfl, hown, hb⟩
  have HF := Lib.hid (fresh_of hown)
  have HX1 := Lib.hid (blk_below hb HX.out)
  have HY1 := Lib.hid (blk_below hb HY.out)
  have HB1 := Lib.hid (HB0.out.trans (hb.mono HB0.out.size))
  clear hown hb k8
  have k8 := cell_block HX1.out 8
  simp only [List.getElem?_toArray, List.getElem?_cons_zero, List.getElem?_cons_succ] at k8
  have f8 : w1.frozen? ⟨w.heap.size, 8, none⟩ = false := by have := HX1.out; simp only [World.frozen?, this]; rfl
  go_upto_region 2 with fail
  obtain ⟨w2, hw2⟩ : ∃ w2, w2 = w1.setCell ⟨w.heap.size, 8, none⟩ (.slice B g.scopes.length d) := ⟨_, rfl⟩
  rw [← hw2]
  have HX2 := Lib.hid (show w2.heap[w.heap.size]? = some (.cells #[.string g.user, .string g.client, .string g.tenant, .string g.session, .string g.redirect, .string g.nonce, .string g.challenge, .int .i64 g.method, .slice B g.scopes.length d, .int .i64 g.auth, .int .i64 g.level] 39 (0, 0)) by rw [hw2]; exact heap_setCell_same _ _ 8 _ _ _ HX1.out)
  have HY2 := Lib.hid (show w2.heap[w.heap.size + 1]? = some (.cells #[.string ⟨#[]⟩, .string ⟨#[]⟩, .string ⟨#[]⟩, .string ⟨#[]⟩, .string ⟨#[]⟩, .string ⟨#[]⟩, .string ⟨#[]⟩, .int .i64 0, .slice none 0 0, .int .i64 0, .int .i64 0] 39 (0, 0)) by rw [hw2]; exact (Below.heap_setCell _ _ _ _ (by simp)).trans HY1.out)
  have HB2 := Lib.hid (show Below w.heap.size w w2 by rw [hw2]; exact HB1.out.setCell (Nat.le_refl _) _)
  have HK2 := Lib.hid (show ∀ k, k ≠ w.heap.size → w2.heap[k]? = w1.heap[k]? from fun k hk => by rw [hw2]; exact Below.heap_setCell _ _ _ _ hk)
  have HZ2 := Lib.hid (show w1.heap.size = w2.heap.size by rw [hw2]; simp only [sc_size])
  have HZ0 := Lib.hid (show w.heap.size + 1 < w0.heap.size from blk_lt HY.out)
  clear hw2 k8 f8
  obtain ⟨y0, y1, y2, y3, y4, y5, y6, y7, y8, y9, y10⟩ := cells11 HX2.out
  go_wp2_with (refine wpList_store_row rfl 39 (.tmp 2) (.tmp 7) rfl (w.heap.size + 1) #[.string g.user, .string g.client, .string g.tenant, .string g.session, .string g.redirect, .string g.nonce, .string g.challenge, .int .i64 g.method, .slice B g.scopes.length d, .int .i64 g.auth, .int .i64 g.level] rfl rfl 39 _ HY2.out (by kernel_rfl) rfl (by simp [Value.oneCell']) ?_)
  obtain ⟨z0, z1, z2, z3, z4, z5, z6, z7, z8, z9, z10⟩ := cells11 (setRow_heap w2 (w.heap.size + 1) _ #[.string g.user, .string g.client, .string g.tenant, .string g.session, .string g.redirect, .string g.nonce, .string g.challenge, .int .i64 g.method, .slice B g.scopes.length d, .int .i64 g.auth, .int .i64 g.level] _ _ HY2.out)
  refine bodyPost_ret (v := .agg #[.string g.user, .string g.client, .string g.tenant, .string g.session, .string g.redirect, .string g.nonce, .string g.challenge, .int .i64 g.method, .slice B g.scopes.length d, .int .i64 g.auth, .int .i64 g.level]) (by simp [results, Tryd.results61, go_sem, z0, z1, z2, z3, z4, z5, z6, z7, z8, z9, z10]) rfl ?_
  refine ⟨B, d, rfl, ⟨?_, fun a ha hn => by have := HF.out.2 a ha hn; have := HZ0.out; omega⟩, below_setRow HB2.out (by omega) _⟩
  refine ss_keep (S := fun k => w0.heap.size ≤ k) HF.out.1 (fun a ha hn => HF.out.2 a ha hn) (fun k hk => ?_) (by rw [setRow_size]; have := HZ2.out; omega)
  have := HZ0.out
  exact (setRow_other _ _ _ _ (by omega)).trans (HK2.out k (by omega))
/-- A number comes back, the flows have turned. -/
def NumIs (w : World) (S : Nat → Prop) (F : Nat) (n : Int) (st : Fs) (e : Ending) (w' : World) : Prop := e = .returned (.int .i64 n) ∧ RepE w' (Go.Proofs.YtapooonlbjgbgaaDoor.grow S w w') F st ∧ Mods S w w'
def PenIs (w : World) (r : Bs × List Bs × Int) (e : Ending) (w' : World) : Prop :=
  ∃ B d, e = .returned (.tuple #[.string r.1, .slice B r.2.1.length d, .int .i64 r.2.2]) ∧ Fresh w' w.heap.size B d r.2.1 ∧ Below w.heap.size w w'
theorem pl_st {st : Fs} {pl : List (Nat × Fw)} (hl : pl.map Prod.snd = st.l) {i b : Nat} {x : Fw} (h : pl[i]? = some (b, x)) : st.l[i]? = some x := by rw [← hl, List.getElem?_map, h]; rfl
set_option maxRecDepth 100000 in
set_option maxHeartbeats 4000000 in
theorem pen_any {w : World} {S : Nat → Prop} {F : Nat} {st : Fs} (h : RepE w S F st) (u : Bs) (hu : u.size ≤ 100000) (now : Int) (hm : MX w) :
    Calls Tryd.prog 19 #[.pointer (some ⟨F, 0, none⟩), .string u, .int .i64 now] w (PenIs w (pen st u now)) := by
  obtain ⟨I, M, pl, h⟩ := h
  have H := Lib.hid h
  have hf := find_any h u hu now hm
  have hnz : ∀ k, fnF st u now = (none, k) → k ≠ 0 := fun k => fnF_nz
  clear h hm
  unfold pen
  generalize fnF st u now = o at hf hnz ⊢
  have HNZ := Lib.hid hnz
  clear hnz
  have HF := Lib.hid hf
  clear hf
  obtain ⟨q, k⟩ := o
  cases q with
  | none =>
    go_enter Tryd.func19, Tryd.ntmps19
    go_wp2_with fail
    refine HF.out.mono ?_
    rintro e w1 ⟨he, hb⟩
    simp only [FindIs] at he
    subst he
    have HB := Lib.hid hb
    clear hb
    by_cases hk : k = 0
    · exact absurd hk (HNZ.out k rfl)
    · have hkb : (k == 0) = false := beq_eq_false_iff_ne.2 hk
      go_wp2
      go_ret3
      exact ⟨none, 0, rfl, fresh_nil _ _, HB.out⟩
  | some q =>
    obtain ⟨i, x⟩ := q
    go_enter Tryd.func19, Tryd.ntmps19
    go_wp2_with fail
    refine HF.out.mono ?_
    rintro e w1 ⟨he, hb⟩
    simp only [FindIs] at he
    obtain ⟨b, hpl, he⟩ := he
    subst he
    have HB := Lib.hid hb
    have hmem := List.mem_of_getElem? hpl
    obtain ⟨A, c, A2, c2, hblk, ⟨hs1, _⟩, _⟩ := (H.out.below hb).hb _ hmem
    have HSS := Lib.hid hs1
    have HSC := Lib.hid (H.out.inv.sc x (snd_mem H.out.hl hmem)).2
    simp only at hblk
    have k1 := cell_block hblk 1
    have k2 := cell_block hblk 2
    simp only [List.getElem?_toArray, List.getElem?_cons_zero, List.getElem?_cons_succ] at k1 k2
    clear hblk hs1 hb hmem
    go_wp2_with fail
    refine wp_region_held_drew (S := (fun w' => w'.cell? ⟨b, 1, none⟩ = some (.string x.client) ∧ w'.cell? ⟨b, 2, none⟩ = some (.slice A x.scopes.length c))) (by kernel_rfl) ?_ (fun hHeld => ?_)
    focus ((try dsimp only); (first | exact ⟨k1, k2⟩ | exact ⟨cell_below HV1.out k1, cell_below HV1.out k2⟩); done)
    refine wpAnyH_take (i := 0) (oi := ⟨_, _, _, _, _, _⟩) (v := ?_) rfl (by kernel_rfl) (by kernel_rfl) (by kernel_rfl) (fun _ _ _ h => h) (Or.inl ⟨by rfl, ?_⟩) (by assumption) ?_; rotate_left; (focus (intro w hSw; (try dsimp only at hSw); go_simp; (try with_reducible rfl); done)); simp only [Act.put, List.setIfInBounds_toArray, List.set_cons_zero, List.set_cons_succ]
    refine wpAnyH_take (i := 1) (oi := ⟨_, _, _, _, _, _⟩) (v := ?_) rfl (by kernel_rfl) (by kernel_rfl) (by kernel_rfl) (fun _ _ _ h => h) (Or.inl ⟨by rfl, ?_⟩) (by assumption) ?_; rotate_left; (focus (intro w hSw; (try dsimp only at hSw); go_simp; (try with_reducible rfl); done)); simp only [Act.put, List.setIfInBounds_toArray, List.set_cons_zero, List.set_cons_succ]
    refine wpAnyH_take (i := 2) (oi := ⟨_, _, _, _, _, _⟩) (v := ?_) rfl (by kernel_rfl) (by kernel_rfl) (by kernel_rfl) (fun _ _ _ h => h) (Or.inl ⟨by rfl, ?_⟩) (by assumption) ?_; rotate_left; (focus (intro w hSw; (try dsimp only at hSw); go_simp; (try with_reducible rfl); done)); simp only [Act.put, List.setIfInBounds_toArray, List.set_cons_zero, List.set_cons_succ]
    refine wpAnyH_take (i := 3) (oi := ⟨_, _, _, _, _, _⟩) (v := ?_) rfl (by kernel_rfl) (by kernel_rfl) (by kernel_rfl) (fun _ _ _ h => h) (Or.inl ⟨by rfl, ?_⟩) (by assumption) ?_; rotate_left; (focus (intro w hSw; (try dsimp only at hSw); go_simp; (try with_reducible rfl); done)); simp only [Act.put, List.setIfInBounds_toArray, List.set_cons_zero, List.set_cons_succ]
    refine wpAnyH_take (i := 4) (oi := ⟨_, _, _, _, _, _⟩) (v := ?_) rfl (by kernel_rfl) (by kernel_rfl) (by kernel_rfl) (fun _ _ _ h => h) (Or.inl ⟨by rfl, ?_⟩) (by assumption) ?_; rotate_left; (focus (intro w hSw; (try dsimp only at hSw); go_simp; (try with_reducible rfl); done)); simp only [Act.put, List.setIfInBounds_toArray, List.set_cons_zero, List.set_cons_succ]
    refine wpAnyH_take (i := 5) (oi := ⟨_, _, _, _, _, _⟩) (v := ?_) rfl (by kernel_rfl) (by kernel_rfl) (by kernel_rfl) (fun _ _ _ h => h) (Or.inl ⟨by rfl, ?_⟩) (by assumption) ?_; rotate_left; (focus (intro w hSw; (try dsimp only at hSw); go_simp; (try with_reducible rfl); done)); simp only [Act.put, List.setIfInBounds_toArray, List.set_cons_zero, List.set_cons_succ]
    refine wpAnyH_take (i := 6) (oi := ⟨_, _, _, _, _, _⟩) (v := ?_) rfl (by kernel_rfl) (by kernel_rfl) (by kernel_rfl) (fun _ _ _ h => h) (Or.inl ⟨by rfl, ?_⟩) (by assumption) ?_; rotate_left; (focus (intro w hSw; (try dsimp only at hSw); go_simp; (try with_reducible rfl); done)); simp only [Act.put, List.setIfInBounds_toArray, List.set_cons_zero, List.set_cons_succ]
    refine wpAnyH_take (i := 7) (oi := ⟨_, _, _, _, _, _⟩) (v := ?_) rfl (by kernel_rfl) (by kernel_rfl) (by kernel_rfl) (fun _ _ _ h => h) (Or.inl ⟨by rfl, ?_⟩) (by assumption) ?_; rotate_left; (focus (intro w hSw; (try dsimp only at hSw); go_simp; (try with_reducible rfl); done)); simp only [Act.put, List.setIfInBounds_toArray, List.set_cons_zero, List.set_cons_succ]
    refine wpAnyH_ready (rs := [8]) (by kernel_rfl) (by simp) ?_
    refine AllReadyH.cons (o := ⟨_, _, _, _, _, _⟩) rfl (fun K hK => ?_) AllReadyH.nil
    go_simp
    go_wp2_with fail
    refine (clone_any A x.scopes.length c x.scopes _ (HSS.out.below ((Below.refl _ _).drew)) (by have := HSC.out; omega)).mono ?_
    rintro e v1 ⟨B, d, rfl, hown, hv⟩
    have HF' := Lib.hid (fresh_of hown)
    have HV1 := Lib.hid (show Below w1.heap.size w1 v1 from ((Below.refl _ _).drew).trans hv)
    clear hown hv
    (try go_wp2_with fail)
    refine hK.out _ _ ?_ (fun hHeld => ?_)
    focus ((try dsimp only); (first | exact ⟨k1, k2⟩ | exact ⟨cell_below HV1.out k1, cell_below HV1.out k2⟩); done)
    clear hK K
    (try simp only [Act.put, List.setIfInBounds_toArray, List.set_cons_zero, List.set_cons_succ])
    refine wpAnyH_take (i := 9) (oi := ⟨_, _, _, _, _, _⟩) (v := ?_) rfl (by kernel_rfl) (by kernel_rfl) (by kernel_rfl) (fun _ _ _ h => h) (Or.inl ⟨by rfl, ?_⟩) (by assumption) ?_; rotate_left; (focus (intro w hSw; (try dsimp only at hSw); go_simp; (try with_reducible rfl); done)); simp only [Act.put, List.setIfInBounds_toArray, List.set_cons_zero, List.set_cons_succ]
    refine wpAnyH_take (i := 10) (oi := ⟨_, _, _, _, _, _⟩) (v := ?_) rfl (by kernel_rfl) (by kernel_rfl) (by kernel_rfl) (fun _ _ _ h => h) (Or.inl ⟨by rfl, ?_⟩) (by assumption) ?_; rotate_left; (focus (intro w hSw; (try dsimp only at hSw); go_simp; (try with_reducible rfl); done)); simp only [Act.put, List.setIfInBounds_toArray, List.set_cons_zero, List.set_cons_succ]
    refine wpAnyH_take (i := 11) (oi := ⟨_, _, _, _, _, _⟩) (v := ?_) rfl (by kernel_rfl) (by kernel_rfl) (by kernel_rfl) (fun _ _ _ h => h) (Or.inl ⟨by rfl, ?_⟩) (by assumption) ?_; rotate_left; (focus (intro w hSw; (try dsimp only at hSw); go_simp; (try with_reducible rfl); done)); simp only [Act.put, List.setIfInBounds_toArray, List.set_cons_zero, List.set_cons_succ]
    refine wpAnyH_done (by kernel_rfl) ?_ _
    go_wp2
    go_ret3
    exact ⟨B, d, rfl, HF'.out.mono HB.out.size, HB.out.trans (HV1.out.mono HB.out.size)⟩
end Go.Proofs.YtapooonlbjgbgaaDoor.Dv
