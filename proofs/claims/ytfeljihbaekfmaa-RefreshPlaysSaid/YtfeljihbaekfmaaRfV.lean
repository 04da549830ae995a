/-
  The program's Rotate: a token used twice.
-/
import Derived.Test.YtfeljihbaekfmaaRfU
namespace Go.Proofs.Ytfeljihbaekfmaa.Rf
open Go.RowKit Go.Proofs.Ytfeljihbaekfmaa.Fo Go.Maps

set_option maxRecDepth 100000 in
set_option maxHeartbeats 8000000 in
theorem rotate_18 {w : World} {S I : Nat → Prop} {F M1 M2 : Nat} {st : St} {pl : List (Nat × Fm)} (h : RepP w S I F st M1 M2 pl) (t n c : Bs) (sc : List Bs) (B : Option Addr) (m d : Nat) (now : Int) (hn : n.size ≤ 100000)
    (hs : Ss w B m d sc) (hsh : Short sc) (hmm : m ≤ 1000) (hm : MX w) (i b : Nat) (x : Fm) (hti : tokI st.l t = some i) (hx : st.l[i]? = some x) (htx : t ∈ x.toks) (hb : pl[i]? = some (b, x)) (q0 : (c.toList == x.g.client.toList) = true) (q1 : (t.toList == (cur x).toList) = false) (hr : rot st t n c sc now = ({ st with l := st.l.set i { x with ended := true } }, (noG, 18))) :
    Calls Try.prog 25 #[.pointer (some ⟨F, 0, none⟩), .string t, .string n, .string c, .slice B m d, .int .i64 now] w (RotIs w S F (rot st t n c sc now)) := by
  have H := Lib.hid (show RepP (w.alloc (.cells #[.string ⟨#[]⟩, .string ⟨#[]⟩, .string ⟨#[]⟩, .string ⟨#[]⟩, .string ⟨#[]⟩, .string ⟨#[]⟩, .string ⟨#[]⟩, .int .i64 0, .slice none 0 0, .int .i64 0, .int .i64 0] 35)) S I F st M1 M2 pl from h.below (by go_grown))
  have H3 := Lib.hid (show RepP (w.alloc (.cells #[.string ⟨#[]⟩, .string ⟨#[]⟩, .string ⟨#[]⟩, .string ⟨#[]⟩, .string ⟨#[]⟩, .string ⟨#[]⟩, .string ⟨#[]⟩, .int .i64 0, .slice none 0 0, .int .i64 0, .int .i64 0] 35)).drew S I F st M1 M2 pl from h.below (by go_grown))
  have HR := Lib.hid hr
  clear hr
  have HREP := Lib.hid (rep_ended h hx hb)
  have HSB := Lib.hid (h.sb _ (List.mem_of_getElem? hb)).1
  have HMX := Lib.hid (List.mem_of_getElem? hx)
  have HMB := Lib.hid (List.mem_of_getElem? hb)
  have HTX := Lib.hid htx
  have HX := Lib.hid hx
  have HBP := Lib.hid hb
  have HTI := Lib.hid hti
  have HS3 := Lib.hid (show Ss (w.alloc (.cells #[.string ⟨#[]⟩, .string ⟨#[]⟩, .string ⟨#[]⟩, .string ⟨#[]⟩, .string ⟨#[]⟩, .string ⟨#[]⟩, .string ⟨#[]⟩, .int .i64 0, .slice none 0 0, .int .i64 0, .int .i64 0] 35)).drew B m d sc from hs.below (by go_grown))
  have HSH := Lib.hid hsh
  have HM3 := Lib.hid (show MX (w.alloc (.cells #[.string ⟨#[]⟩, .string ⟨#[]⟩, .string ⟨#[]⟩, .string ⟨#[]⟩, .string ⟨#[]⟩, .string ⟨#[]⟩, .string ⟨#[]⟩, .int .i64 0, .slice none 0 0, .int .i64 0, .int .i64 0] 35)).drew from hm.below (by go_grown))
  have HLT := Lib.hid h.lt
  obtain ⟨vn, hrn⟩ := look2_any H3.out n hn _ rfl
  have HRN := Lib.hid hrn
  obtain ⟨A, cc, hxb, hss, hIA⟩ := H3.out.hb (b, x) HMB.out
  have HXB := Lib.hid hxb
  have HSX := Lib.hid hss
  have HIA := Lib.hid hIA
  have HSHX := Lib.hid (h.inv.sc x (List.mem_of_getElem? hx))
  have HADD := Lib.hid (addC_zero now)
  clear h hs hsh hm hti hx htx hb hxb hss hIA hrn
  have HMM := Lib.hid hmm
  go_enter Try.func25, Try.ntmps25
  go_wp2_with fail
  refine (made_yes H.out).mono ?_
  rintro e w1 ⟨rfl, rfl⟩
  have c2 := H.out.c2
  have c3 := H.out.c3
  go_upto_region 3 with fail
  go_cut [14] (fun s14 wx => s14 = .pointer (some ⟨b, 0, none⟩) ∧ wx = (w.alloc (.cells #[.string ⟨#[]⟩, .string ⟨#[]⟩, .string ⟨#[]⟩, .string ⟨#[]⟩, .string ⟨#[]⟩, .string ⟨#[]⟩, .string ⟨#[]⟩, .int .i64 0, .slice none 0 0, .int .i64 0, .int .i64 0] 35)).drew)
  case first =>
    refine wp_region_held_drew (S := (fun w' => w'.cell? ⟨F, 2, none⟩ = some (.map (some M1)) ∧ w'.cell? ⟨F, 3, none⟩ = some (.map (some M2)) ∧ (Instr.lookup 62 (.map (some M2)) (.string t) false).run Try.prog w' = .ok (.string x.id) w' ∧ (Instr.lookup 61 (.map (some M1)) (.string x.id) false).run Try.prog w' = .ok (.pointer (some ⟨b, 0, none⟩)) w')) (by kernel_rfl) ?_ (fun hHeld => ?_)
    focus ((try dsimp only); (exact ⟨H3.out.c2, H3.out.c3, look2_yes H3.out x HMX.out t HTX.out false, look1_yes H3.out (b, x) HMB.out⟩); done)
    refine wpAnyH_take (i := 0) (oi := ⟨_, _, _, _, _, _⟩) (v := ?_) rfl (by kernel_rfl) (by kernel_rfl) (by kernel_rfl) (fun _ _ _ h => h) (Or.inl ⟨by rfl, ?_⟩) (by assumption) ?_; rotate_left; (focus (intro w hSw; (try dsimp only at hSw); go_simp; (try with_reducible rfl); done)); simp only [Act.put, List.setIfInBounds_toArray, List.set_cons_zero, List.set_cons_succ]
    refine wpAnyH_take (i := 1) (oi := ⟨_, _, _, _, _, _⟩) (v := ?_) rfl (by kernel_rfl) (by kernel_rfl) (by kernel_rfl) (fun _ _ _ h => h) (Or.inl ⟨by rfl, ?_⟩) (by assumption) ?_; rotate_left; (focus (intro w hSw; (try dsimp only at hSw); go_simp; (try with_reducible rfl); done)); simp only [Act.put, List.setIfInBounds_toArray, List.set_cons_zero, List.set_cons_succ]
    refine wpAnyH_take (i := 2) (oi := ⟨_, _, _, _, _, _⟩) (v := ?_) rfl (by kernel_rfl) (by kernel_rfl) (by kernel_rfl) (fun _ _ _ h => h) (Or.inl ⟨by rfl, ?_⟩) (by assumption) ?_; rotate_left; (focus (intro w hSw; (try dsimp only at hSw); go_simp; (try with_reducible rfl); done)); simp only [Act.put, List.setIfInBounds_toArray, List.set_cons_zero, List.set_cons_succ]
    refine wpAnyH_take (i := 3) (oi := ⟨_, _, _, _, _, _⟩) (v := ?_) rfl (by kernel_rfl) (by kernel_rfl) (by kernel_rfl) (fun _ _ _ h => h) (Or.inl ⟨by rfl, ?_⟩) (by assumption) ?_; rotate_left; (focus (intro w hSw; (try dsimp only at hSw); go_simp; (try with_reducible rfl); done)); simp only [Act.put, List.setIfInBounds_toArray, List.set_cons_zero, List.set_cons_succ]
    refine wpAnyH_take (i := 4) (oi := ⟨_, _, _, _, _, _⟩) (v := ?_) rfl (by kernel_rfl) (by kernel_rfl) (by kernel_rfl) (fun _ _ _ h => h) (Or.inl ⟨by rfl, ?_⟩) (by assumption) ?_; rotate_left; (focus (intro w hSw; (try dsimp only at hSw); go_simp; (try with_reducible rfl); done)); simp only [Act.put, List.setIfInBounds_toArray, List.set_cons_zero, List.set_cons_succ]
    refine wpAnyH_take (i := 5) (oi := ⟨_, _, _, _, _, _⟩) (v := ?_) rfl (by kernel_rfl) (by kernel_rfl) (by kernel_rfl) (fun _ _ _ h => h) (Or.inl ⟨by rfl, ?_⟩) (by assumption) ?_; rotate_left; (focus (intro w hSw; (try dsimp only at hSw); go_simp; (try with_reducible rfl); done)); simp only [Act.put, List.setIfInBounds_toArray, List.set_cons_zero, List.set_cons_succ]
    refine wpAnyH_take (i := 6) (oi := ⟨_, _, _, _, _, _⟩) (v := ?_) rfl (by kernel_rfl) (by kernel_rfl) (by kernel_rfl) (fun _ _ _ h => h) (Or.inl ⟨by rfl, ?_⟩) (by assumption) ?_; rotate_left; (focus (intro w hSw; (try dsimp only at hSw); go_simp; (try with_reducible rfl); done)); simp only [Act.put, List.setIfInBounds_toArray, List.set_cons_zero, List.set_cons_succ]
    refine wpAnyH_take (i := 7) (oi := ⟨_, _, _, _, _, _⟩) (v := ?_) rfl (by kernel_rfl) (by kernel_rfl) (by kernel_rfl) (fun _ _ _ h => h) (Or.inl ⟨by rfl, ?_⟩) (by assumption) ?_; rotate_left; (focus (intro w hSw; (try dsimp only at hSw); go_simp; (try with_reducible rfl); done)); simp only [Act.put, List.setIfInBounds_toArray, List.set_cons_zero, List.set_cons_succ]
    refine wpAnyH_take (i := 8) (oi := ⟨_, _, _, _, _, _⟩) (v := ?_) rfl (by kernel_rfl) (by kernel_rfl) (by kernel_rfl) (fun _ _ _ h => h) (Or.inl ⟨by rfl, ?_⟩) (by assumption) ?_; rotate_left; (focus (intro w hSw; (try dsimp only at hSw); go_simp; (try with_reducible rfl); done)); simp only [Act.put, List.setIfInBounds_toArray, List.set_cons_zero, List.set_cons_succ]
    refine wpAnyH_take (i := 9) (oi := ⟨_, _, _, _, _, _⟩) (v := ?_) rfl (by kernel_rfl) (by kernel_rfl) (by kernel_rfl) (fun _ _ _ h => h) (Or.inl ⟨by rfl, ?_⟩) (by assumption) ?_; rotate_left; (focus (intro w hSw; (try dsimp only at hSw); go_simp; (try with_reducible rfl); done)); simp only [Act.put, List.setIfInBounds_toArray, List.set_cons_zero, List.set_cons_succ]
    refine wpAnyH_take (i := 10) (oi := ⟨_, _, _, _, _, _⟩) (v := ?_) rfl (by kernel_rfl) (by kernel_rfl) (by kernel_rfl) (fun _ _ _ h => h) (Or.inl ⟨by rfl, ?_⟩) (by assumption) ?_; rotate_left; (focus (intro w hSw; (try dsimp only at hSw); go_simp; (try with_reducible rfl); done)); simp only [Act.put, List.setIfInBounds_toArray, List.set_cons_zero, List.set_cons_succ]
    refine wpAnyH_take (i := 11) (oi := ⟨_, _, _, _, _, _⟩) (v := ?_) rfl (by kernel_rfl) (by kernel_rfl) (by kernel_rfl) (fun _ _ _ h => h) (Or.inl ⟨by rfl, ?_⟩) (by assumption) ?_; rotate_left; (focus (intro w hSw; (try dsimp only at hSw); go_simp; (try with_reducible rfl); done)); simp only [Act.put, List.setIfInBounds_toArray, List.set_cons_zero, List.set_cons_succ]
    refine wpAnyH_done (by kernel_rfl) ?_ _
    go_wp2
    go_meet
    exact ⟨rfl, rfl⟩
  case rest =>
    obtain ⟨rfl, rfl⟩ := hcut
    clear c2 c3
    have c3 := H3.out.c3
    have hr1 := look2_yes H3.out x HMX.out t HTX.out true
    have hrn := HRN.out
    have x1 := cell_block HXB.out 1
    have x8 := cell_block HXB.out 8
    have x11 := cell_block HXB.out 11
    have x12 := cell_block HXB.out 12
    have x13 := cell_block HXB.out 13
    have x14 := cell_block HXB.out 14
    have x15 := cell_block HXB.out 15
    simp only [List.getElem?_toArray, List.getElem?_cons_zero, List.getElem?_cons_succ] at x1 x8 x11 x12 x13 x14 x15
    have f15 : (w.alloc (.cells #[.string ⟨#[]⟩, .string ⟨#[]⟩, .string ⟨#[]⟩, .string ⟨#[]⟩, .string ⟨#[]⟩, .string ⟨#[]⟩, .string ⟨#[]⟩, .int .i64 0, .slice none 0 0, .int .i64 0, .int .i64 0] 35)).drew.frozen? ⟨b, 15, none⟩ = false := by have := HXB.out; simp only [World.frozen?, this]; rfl
    have hbn : b < w.heap.size := HLT.out _ HSB.out
    have hne : b ≠ w.heap.size := by omega
    go_wp2
    refine bodyPost_ret (v := .tuple #[.agg #[.string ⟨#[]⟩, .string ⟨#[]⟩, .string ⟨#[]⟩, .string ⟨#[]⟩, .string ⟨#[]⟩, .string ⟨#[]⟩, .string ⟨#[]⟩, .int .i64 0, .slice none 0 0, .int .i64 0, .int .i64 0], .int .i64 18]) (by simp [results, Try.results25, go_sem]) rfl ?_
    refine rot_end HR.out HREP.out HLT.out ((Mods.refl S w).setCell (p := ⟨b, 15, none⟩) (Or.inl HSB.out) (.bool true)) (by go_grown)
end Go.Proofs.Ytfeljihbaekfmaa.Rf
