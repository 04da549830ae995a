/-
  The program's Rotate.
-/
import Derived.Test.YtfeljihbaekfmaaRfT0
namespace Go.Proofs.Ytfeljihbaekfmaa.Rf
open Go.RowKit Go.Proofs.Ytfeljihbaekfmaa.Fo Go.Maps

/-- A grant and an error come back, the families have turned. -/
def RotIs (w : World) (S : Nat → Prop) (F : Nat) (r : St × (Gr × Int)) (e : Ending) (w' : World) : Prop :=
  ∃ A d, e = .returned (.tuple #[.agg #[.string r.2.1.user, .string r.2.1.client, .string r.2.1.tenant, .string r.2.1.session, .string r.2.1.redirect, .string r.2.1.nonce, .string r.2.1.challenge, .int .i64 r.2.1.method, (.slice A r.2.1.scopes.length d), .int .i64 r.2.1.auth, .int .i64 r.2.1.level], .int .i64 r.2.2]) ∧ Ss w' A r.2.1.scopes.length d r.2.1.scopes ∧ (∀ a, A = some a → 0 < r.2.1.scopes.length → w.heap.size ≤ a.block) ∧ RepE w' S F r.1 ∧ Mods S w w'
theorem rot_no {w w' : World} {S : Nat → Prop} {F : Nat} {st : St} {k : Int} {r : St × (Gr × Int)} (hr : r = (st, (noG, k))) (h : RepE w S F st) (hb : Below w.heap.size w w') : RotIs w S F r (.returned (.tuple #[.agg #[.string ⟨#[]⟩, .string ⟨#[]⟩, .string ⟨#[]⟩, .string ⟨#[]⟩, .string ⟨#[]⟩, .string ⟨#[]⟩, .string ⟨#[]⟩, .int .i64 0, .slice none 0 0, .int .i64 0, .int .i64 0], .int .i64 k])) w' := by
  subst hr
  exact ⟨none, 0, rfl, Ss.nil _ _ _, (fun a h => by cases h), h.below hb, Mods.of_below S hb⟩
theorem rot_none {st : St} {t n c : Bs} {sc : List Bs} {now : Int} (h : tokI st.l t = none) : rot st t n c sc now = (st, (noG, 6)) := by unfold rot; rw [h]
theorem rot_bad {st : St} {t n c : Bs} {sc : List Bs} {now : Int} {i : Nat} {x : Fm} (h : tokI st.l t = some i) (hx : st.l[i]? = some x) (h1 : rotE st x t n c sc now ≠ 18) (h2 : rotE st x t n c sc now ≠ 0) : rot st t n c sc now = (st, (noG, rotE st x t n c sc now)) := by
  unfold rot; rw [h]; simp only [hx]; rw [if_neg h1, if_neg h2]
theorem rot_is {st : St} {t n c : Bs} {sc : List Bs} {now : Int} {i : Nat} {x : Fm} (h : tokI st.l t = some i) (hx : st.l[i]? = some x) {k : Int} (e : rotE st x t n c sc now = k) (h1 : k ≠ 18) (h2 : k ≠ 0) : rot st t n c sc now = (st, (noG, k)) := by
  rw [rot_bad h hx (by rw [e]; exact h1) (by rw [e]; exact h2), e]
theorem rot_rep {st : St} {t n c : Bs} {sc : List Bs} {now : Int} {i : Nat} {x : Fm} (h : tokI st.l t = some i) (hx : st.l[i]? = some x) (h1 : rotE st x t n c sc now = 18) : rot st t n c sc now = ({ st with l := st.l.set i { x with ended := true } }, (noG, 18)) := by
  unfold rot; rw [h]; simp only [hx]; rw [if_pos h1]
theorem rot_ok {st : St} {t n c : Bs} {sc : List Bs} {now : Int} {i : Nat} {x : Fm} (h : tokI st.l t = some i) (hx : st.l[i]? = some x) (h1 : rotE st x t n c sc now = 0) : rot st t n c sc now = ({ st with l := st.l.set i (rotF st x n now) }, (rotG x sc, 0)) := by
  unfold rot; rw [h]; simp only [hx]; rw [if_neg (by rw [h1]; decide), if_pos h1]
theorem rot_end {w w4 w' : World} {S I : Nat → Prop} {F M1 M2 : Nat} {st' : St} {pl' : List (Nat × Fm)} {r : St × (Gr × Int)} (hr : r = (st', (noG, 18))) (h : RepP w4 S I F st' M1 M2 pl') (hlt : ∀ k, S k → k < w.heap.size) (hm : Mods S w w4) (hb : Below w.heap.size w4 w') : RotIs w S F r (.returned (.tuple #[.agg #[.string ⟨#[]⟩, .string ⟨#[]⟩, .string ⟨#[]⟩, .string ⟨#[]⟩, .string ⟨#[]⟩, .string ⟨#[]⟩, .string ⟨#[]⟩, .int .i64 0, .slice none 0 0, .int .i64 0, .int .i64 0], .int .i64 18])) w' := by
  subst hr
  have hz := hm.size
  have hz2 := hb.size
  refine ⟨none, 0, rfl, Ss.nil _ _ _, (fun a h => by cases h), ⟨I, M1, M2, pl', h.keep (fun _ e => e) (fun k e => hb.block k (hlt k e)) hz2 (fun k e => by have := hlt k e; omega)⟩, ⟨hb.os.trans hm.os, hb.tape.trans hm.tape, hb.output.trans hm.output, Nat.le_trans hz hz2, fun k hk hn => (hb.block k hk).trans (hm.block k hk hn)⟩⟩
set_option maxRecDepth 100000 in
set_option maxHeartbeats 8000000 in
theorem rotate_no {w : World} {S : Nat → Prop} {F : Nat} {st : St} (h : RepE w S F st) (t n c : Bs) (sc : List Bs) (B : Option Addr) (m d : Nat) (now : Int) (ht : t.size ≤ 100000) (hti : tokI st.l t = none) :
    Calls Try.prog 25 #[.pointer (some ⟨F, 0, none⟩), .string t, .string n, .string c, .slice B m d, .int .i64 now] w (RotIs w S F (rot st t n c sc now)) := by
  have HRE := Lib.hid h
  obtain ⟨I, M1, M2, pl, h⟩ := h
  have H := Lib.hid (show RepP (w.alloc (.cells #[.string ⟨#[]⟩, .string ⟨#[]⟩, .string ⟨#[]⟩, .string ⟨#[]⟩, .string ⟨#[]⟩, .string ⟨#[]⟩, .string ⟨#[]⟩, .int .i64 0, .slice none 0 0, .int .i64 0, .int .i64 0] 35)) S I F st M1 M2 pl from h.below (by go_grown))
  have H3 := Lib.hid (show RepP (w.alloc (.cells #[.string ⟨#[]⟩, .string ⟨#[]⟩, .string ⟨#[]⟩, .string ⟨#[]⟩, .string ⟨#[]⟩, .string ⟨#[]⟩, .string ⟨#[]⟩, .int .i64 0, .slice none 0 0, .int .i64 0, .int .i64 0] 35)).drew S I F st M1 M2 pl from h.below (by go_grown))
  have HE := Lib.hid (show ∀ p ∈ pl, p.2.id ≠ eB from fun p hp e => by
    have := (h.inv.sz p.2 (snd_mem h.hl hp)).1.1
    rw [e] at this
    exact absurd this (by decide))
  have HTI := Lib.hid (tokI_none.1 hti)
  have HR := Lib.hid (rot_none (n := n) (c := c) (sc := sc) (now := now) hti)
  clear h hti
  go_enter Try.func25, Try.ntmps25
  go_wp2_with fail
  refine (made_yes H.out).mono ?_
  rintro e w1 ⟨rfl, rfl⟩
  have c2 := H.out.c2
  have c3 := H.out.c3
  go_upto_region 3 with fail
  go_cut [14] (fun s14 wx => s14 = .pointer none ∧ wx = (w.alloc (.cells #[.string ⟨#[]⟩, .string ⟨#[]⟩, .string ⟨#[]⟩, .string ⟨#[]⟩, .string ⟨#[]⟩, .string ⟨#[]⟩, .string ⟨#[]⟩, .int .i64 0, .slice none 0 0, .int .i64 0, .int .i64 0] 35)).drew)
  case first =>
    refine wp_region_held_drew (S := (fun w' => w'.cell? ⟨F, 2, none⟩ = some (.map (some M1)) ∧ w'.cell? ⟨F, 3, none⟩ = some (.map (some M2)) ∧ (Instr.lookup 62 (.map (some M2)) (.string t) false).run Try.prog w' = .ok (.string ⟨#[]⟩) w' ∧ (Instr.lookup 61 (.map (some M1)) (.string ⟨#[]⟩) false).run Try.prog w' = .ok (.pointer none) w')) (by kernel_rfl) ?_ (fun hHeld => ?_)
    focus ((try dsimp only); (exact ⟨H3.out.c2, H3.out.c3, look2_no H3.out t ht HTI.out false, look1_no H3.out eB (by decide) HE.out⟩); done)
    refine wpAnyH_take (i := 0) (oi := ⟨_, _, _, _, _, _⟩) (v := ?_) rfl (by kernel_rfl) (by kernel_rfl) (by kernel_rfl) (fun _ _ _ h => h) (Or.inl ⟨by rfl, ?_⟩) (by assumption) ?_; rotate_left; (focus (intro w hSw; (try dsimp only at hSw); go_simp; (try with_reducible rfl); done)); simp only [Act.put, List.setIfInBounds_toArray, List.set_cons_zero, List.set_cons_succ]
    refine wpAnyH_take (i := 1) (oi := ⟨_, _, _, _, _, _⟩) (v := ?_) rfl (by kernel_rfl) (by kernel_rfl) (by kernel_rfl) (fun _ _ _ h => h) (Or.inl ⟨by rfl, ?_⟩) (by assumption) ?_; rotate_left; (focus (intro w hSw; (try dsimp only at hSw); go_simp; (try with_reducible rfl); done)); simp only [Act.put, List.setIfInBounds_toArray, List.set_cons_zero, List.set_cons_succ]
    refine wpAnyH_take (i := 2) (oi := ⟨_, _, _, _, _, _⟩) (v := ?_) rfl (by kernel_rfl) (by kernel_rfl) (by kernel_rfl) (fun _ _ _ h => h) (Or.inl ⟨by rfl, ?_⟩) (by assumption) ?_; rotate_left; (focus (intro w hSw; (try dsimp only at hSw); go_simp; (try with_reducible rfl); done)); simp only [Act.put, List.setIfInBounds_toArray, List.set_cons_zero, List.set_cons_succ]
    refine wpAnyH_take (i := 3) (oi := ⟨_, _, _, _, _, _⟩) (v := ?_) rfl (by kernel_rfl) (by kernel_rfl) (by kernel_rfl) (fun _ _ _ h => h) (Or.inl ⟨by rfl, ?_⟩) (by assumption) ?_; rotate_left; (focus (intro w hSw; (try dsimp only at hSw); go_simp; (try with_reducible rfl); done)); simp only [Act.put, List.setIfInBounds_toArray, List.set_cons_zero, List.set_cons_succ]
    refine wpAnyH_take (i := 4) (oi := ⟨_, _, _, _, _, _⟩) (v := ?_) rfl (by kernel_rfl) (by kernel_rfl) (by kernel_rfl) (fun _ _ _ h => h) (Or.inl ⟨by rfl, ?_⟩) (by assumption) ?_; rotate_left; (focus (intro w hSw; (try dsimp only at hSw); go_simp; (try with_reducible rfl); done)); simp only [Act.put, List.setIfInBounds_toArray, List.set_cons_zero, List.set_cons_succ]
    refine wpAnyH_take (i := 5) (oi := ⟨_, _, _, _, _, _⟩) (v := ?_) rfl (by kernel_rfl) (by kernel_rfl) (by kernel_rfl) (fun _ _ _ h => h) (Or.inl ⟨by rfl, ?_⟩) (by assumption) ?_; rotate_left; (focus (intro w hSw; (try dsimp only at hSw); go_simp; (try with_reducible rfl); done)); simp only [Act.put, List.setIfInBounds_toArray, List.set_cons_zero, List.set_cons_succ]
    refine wpAnyH_take (i := 6) (oi := ⟨_, _, _, _, _, _⟩) (v := ?_) rfl (by kernel_rfl) (by kernel_rfl) (by kernel_rfl) (fun _ _ _ h => h) (Or.inl ⟨by rfl, ?_⟩) (by assumption) ?_; rotate_left; (focus (intro w hSw; (try dsimp only at hSw); go_simp; (try with_reducible rfl); done)); simp only [Act.put, List.setIfInBounds_toArray, List.set_cons_zero, List.set_cons_succ]
    refine wpAnyH_take (i := 7) (oi := ⟨_, _, _, _, _, _⟩) (v := ?_) rfl (by kernel_rfl) (by kernel_rfl) (by kernel_rfl) (fun _ _ _ h => h) (Or.inl ⟨by rfl, ?_⟩) (by assumption) ?_; rotate_left; (focus (intro w hSw; (try dsimp only at hSw); go_simp; (try with_reducible rfl); done)); simp only [Act.put, List.setIfInBounds_toArray, List.set_cons_zero, List.set_cons_succ]
    refine wpAnyH_take (i := 8) (oi := ⟨_, _, _, _, _, _⟩) (v := ?_) rfl (by kernel_rfl) (by kernel_rfl) (by kernel_rfl) (fun _ _ _ h => h) (Or.inl ⟨by rfl, ?_⟩) (by assumption) ?_; rotate_left; (focus (intro w hSw; (try dsimp only at hSw); go_simp; (try with_reducible rfl); done)); simp only [Act.put, List.setIfInBounds_toArray, List.set_cons_zero, List.set_cons_succ]
    refine wpAnyH_take (i := 9) (oi := ⟨_, _, _, _, _, _⟩) (v := ?_) rfl (by kernel_rfl) (by kernel_rfl) (by kernel_rfl) (fun _ _ _ h => h) (Or.inl ⟨by rfl, ?_⟩) (by assumption) ?_; rotate_left; (focus (intro w hSw; (try dsimp only at hSw); go_simp; (try with_reducible rfl); done)); simp only [Act.put, List.setIfInBounds_toArray, List.set_cons_zero, List.set_cons_succ]
    refine wpAnyH_take (i := 10) (oi := ⟨_, _, _, _, _, _⟩) (v := ?_) rfl (by kernel_rfl) (by kernel_rfl) (by kernel_rfl) (fun _ _ _ h => h) (Or.inl ⟨by rfl, ?_⟩) (by assumption) ?_; rotate_left; (focus (intro w hSw; (try dsimp only at hSw); go_simp; (try with_reducible rfl); done)); simp only [Act.put, List.setIfInBounds_toArray, List.set_cons_zero, List.set_cons_succ]
    refine wpAnyH_take (i := 11) (oi := ⟨_, _, _, _, _, _⟩) (v := ?_) rfl (by kernel_rfl) (by kernel_rfl) (by kernel_rfl) (fun _ _ _ h => h) (Or.inl ⟨by rfl, ?_⟩) (by assumption) ?_; rotate_left; (focus (intro w hSw; (try dsimp only at hSw); go_simp; (try with_reducible rfl); done)); simp only [Act.put, List.setIfInBounds_toArray, List.set_cons_zero, List.set_cons_succ]
    refine wpAnyH_done (by kernel_rfl) ?_ _
    go_wp2
    go_meet
    exact ⟨rfl, rfl⟩
  case rest =>
    obtain ⟨rfl, rfl⟩ := hcut
    clear c2 c3
    have c3 := H3.out.c3
    have hr1 := look2_no H3.out t ht HTI.out true
    go_wp2
    refine bodyPost_ret (v := .tuple #[.agg #[.string ⟨#[]⟩, .string ⟨#[]⟩, .string ⟨#[]⟩, .string ⟨#[]⟩, .string ⟨#[]⟩, .string ⟨#[]⟩, .string ⟨#[]⟩, .int .i64 0, .slice none 0 0, .int .i64 0, .int .i64 0], .int .i64 6]) (by simp [results, Try.results25, go_sem]) rfl ?_
    exact rot_no HR.out HRE.out (by go_grown)
end Go.Proofs.Ytfeljihbaekfmaa.Rf
