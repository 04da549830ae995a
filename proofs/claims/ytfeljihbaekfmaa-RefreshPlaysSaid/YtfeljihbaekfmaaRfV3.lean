/-
  The program's Rotate: a token that is rotated, with scopes wanted.
-/
import Derived.Test.YtfeljihbaekfmaaRfV2
namespace Go.Proofs.Ytfeljihbaekfmaa.Rf
open Go.RowKit Go.Proofs.Ytfeljihbaekfmaa.Fo Go.Maps

set_option maxRecDepth 100000 in
set_option maxHeartbeats 8000000 in
theorem rotate_ok1 {w : World} {S I : Nat → Prop} {F M1 M2 : Nat} {st : St} {pl : List (Nat × Fm)} (h : RepP w S I F st M1 M2 pl) (t n c : Bs) (sc : List Bs) (B : Option Addr) (m d : Nat) (now : Int) (hn : n.size ≤ 100000)
    (hs : Ss w B m d sc) (hsh : Short sc) (hmm : m ≤ 1000) (hm : MX w) (i b : Nat) (x : Fm) (hti : tokI st.l t = some i) (hx : st.l[i]? = some x) (htx : t ∈ x.toks) (hb : pl[i]? = some (b, x)) (hwn : wrd n = true) (hm0 : 0 < m) (hBS : ∀ a, B = some a → 0 < m → ¬ S a.block) (q0 : (c.toList == x.g.client.toList) = true) (q1 : (t.toList == (cur x).toList) = true) (q2 : x.ended = false) (q3 : ¬ x.untl ≤ addC now 0) (q4 : wrd n = true) (q5 : (tokI st.l n).isSome = false) (q6 : withinS sc x.g.scopes = true) (q7 : ¬ 256 ≤ x.toks.length) (hr : rot st t n c sc now = ({ st with l := st.l.set i (rotF st x n now) }, (rotG x sc, 0))) :
    Calls Try.prog 25 #[.pointer (some ⟨F, 0, none⟩), .string t, .string n, .string c, .slice B m d, .int .i64 now] w (RotIs w S F (rot st t n c sc now)) := by
  have H := Lib.hid (show RepP (w.alloc (.cells #[.string ⟨#[]⟩, .string ⟨#[]⟩, .string ⟨#[]⟩, .string ⟨#[]⟩, .string ⟨#[]⟩, .string ⟨#[]⟩, .string ⟨#[]⟩, .int .i64 0, .slice none 0 0, .int .i64 0, .int .i64 0] 35)) S I F st M1 M2 pl from h.below (by go_grown))
  have H3 := Lib.hid (show RepP (w.alloc (.cells #[.string ⟨#[]⟩, .string ⟨#[]⟩, .string ⟨#[]⟩, .string ⟨#[]⟩, .string ⟨#[]⟩, .string ⟨#[]⟩, .string ⟨#[]⟩, .int .i64 0, .slice none 0 0, .int .i64 0, .int .i64 0] 35)).drew S I F st M1 M2 pl from h.below (by go_grown))
  have HR := Lib.hid hr
  have HW := Lib.hid h
  have HWN := Lib.hid hwn
  have HM0 := Lib.hid hm0
  have HTN := Lib.hid (show tokI st.l n = none by cases hq : tokI st.l n with | none => rfl | some j => rw [hq] at q5; cases q5)
  have HSB := Lib.hid (h.sb _ (List.mem_of_getElem? hb))
  have HL7 := Lib.hid (h.inv.tl x (List.mem_of_getElem? hx))
  clear hr hwn hm0
  have HBS := Lib.hid hBS
  clear hBS
  have HMX := Lib.hid (List.mem_of_getElem? hx)
  have HMB := Lib.hid (List.mem_of_getElem? hb)
  have HTX := Lib.hid htx
  have HX := Lib.hid hx
  have HBP := Lib.hid hb
  have HTI := Lib.hid hti
  have HS3 := Lib.hid (show Ss (w.alloc (.cells #[.string ⟨#[]⟩, .string ⟨#[]⟩, .string ⟨#[]⟩, .string ⟨#[]⟩, .string ⟨#[]⟩, .string ⟨#[]⟩, .string ⟨#[]⟩, .int .i64 0, .slice none 0 0, .int .i64 0, .int .i64 0] 35)).drew B m d sc from hs.below (by go_grown))
  have HSH := Lib.hid hsh
  have HM3 := Lib.hid (show MX (w.alloc (.cells #[.string ⟨#[]⟩, .string ⟨#[]⟩, .string ⟨#[]⟩, .string ⟨#[]⟩, .string ⟨#[]⟩, .string ⟨#[]⟩, .string ⟨#[]⟩, .int .i64 0, .slice none 0 0, .int .i64 0, .int .i64 0] 35)).drew from hm.below (by go_grown))
  have HLT := Lib.hid h.lt
  obtain ⟨vn, hrn⟩ := look2_any H3.out n hn _ rfl
  have HRN := Lib.hid hrn
  obtain ⟨A, cc, hxb, hss, hIA⟩ := H3.out.hb (b, x) HMB.out
  have HXB := Lib.hid hxb
  have HSX := Lib.hid hss
  have HIA := Lib.hid hIA
  have HSHX := Lib.hid (h.inv.sc x (List.mem_of_getElem? hx))
  have HADD := Lib.hid (addC_zero now)
  have Q4 := Lib.hid q4
  clear q4
  rw [q5] at hrn
  have HRN5 := Lib.hid hrn
  have Q5 := Lib.hid q5
  clear q5
  have Q6 := Lib.hid q6
  clear q6
  have Q2 := Lib.hid q2
  clear h hs hsh hm hti hx htx hb hxb hss hIA hrn
  have HMM := Lib.hid hmm
  clear q2
  go_enter Try.func25, Try.ntmps25
  go_wp2_with fail
  refine (made_yes H.out).mono ?_
  rintro e w1 ⟨rfl, rfl⟩
  have c2 := H.out.c2
  have c3 := H.out.c3
  go_upto_region 3 with fail
  go_cut [14] (fun s14 wx => s14 = .pointer (some ⟨b, 0, none⟩) ∧ wx = (w.alloc (.cells #[.string ⟨#[]⟩, .string ⟨#[]⟩, .string ⟨#[]⟩, .string ⟨#[]⟩, .string ⟨#[]⟩, .string ⟨#[]⟩, .string ⟨#[]⟩, .int .i64 0, .slice none 0 0, .int .i64 0, .int .i64 0] 35)).drew)
  case first =>
    refine wp_region_held_drew (S := (fun w' => w'.cell? ⟨F, 2, none⟩ = some (.map (some M1)) ∧ w'.cell? ⟨F, 3, none⟩ = some (.map (some M2)) ∧ (Instr.lookup 62 (.map (some M2)) (.string t) false).run Try.prog w' = .ok (.string x.id) w' ∧ (Instr.lookup 61 (.map (some M1)) (.string x.id) false).run Try.prog w' = .ok (.pointer (some ⟨b, 0, none⟩)) w')) (by kernel_rfl) ?_ (fun hHeld => ?_)
    focus ((try dsimp only); (exact ⟨H3.out.c2, H3.out.c3, look2_yes H3.out x HMX.out t HTX.out false, look1_yes H3.out (b, x) HMB.out⟩); done)
    refine wpAnyH_take (i := 0) (oi := ⟨_, _, _, _, _, _⟩) (v := ?_) rfl (by kernel_rfl) (by kernel_rfl) (by kernel_rfl) (fun _ _ _ h => h) (Or.inl ⟨by rfl, ?_⟩) (by assumption) ?_; rotate_left; (focus (intro w hSw; (try dsimp only at hSw); go_simp; (try with_reducible rfl); done)); simp only [Act.put, List.setIfInBounds_toArray, List.set_cons_zero, List.set_cons_succ]
    refine wpAnyH_take (i := 1) (oi := ⟨_, _, _, _, _, _⟩) (v := ?_) rfl (by kernel_rfl) (by kernel_rfl) (by kernel_rfl) (fun _ _ _ h => h) (Or.inl ⟨by rfl, ?_⟩) (by assumption) ?_; rotate_left; (focus (intro w hSw; (try dsimp only at hSw); go_simp; (try with_reducible rfl); done)); simp only [Act.put, List.setIfInBounds_toArray, List.set_cons_zero, List.set_cons_succ]
    refine wpAnyH_take (i := 2) (oi := ⟨_, _, _, _, _, _⟩) (v := ?_) rfl (by kernel_rfl) (by kernel_rfl) (by kernel_rfl) (fun _ _ _ h => h) (Or.inl ⟨by rfl, ?_⟩) (by assumption) ?_; rotate_left; (focus (intro w hSw; (try dsimp only at hSw); go_simp; (try with_reducible rfl); done)); simp only [Act.put, List.setIfInBounds_toArray, List.set_cons_zero, List.set_cons_succ]
    refine wpAnyH_take (i := 3) (oi := ⟨_, _, _, _, _, _⟩) (v := ?_) rfl (by kernel_rfl) (by kernel_rfl) (by kernel_rfl) (fun _ _ _ h => h) (Or.inl ⟨by rfl, ?_⟩) (by assumption) ?_; rotate_left; (focus (intro w hSw; (try dsimp only at hSw); go_simp; (try with_reducible rfl); done)); simp only [Act.put, List.setIfInBounds_toArray, List.set_cons_zero, List.set_cons_succ]
    refine wpAnyH_take (i := 4) (oi := ⟨_, _, _, _, _, _⟩) (v := ?_) rfl (by kernel_rfl) (by kernel_rfl) (by kernel_rfl) (fun _ _ _ h => h) (Or.inl ⟨by rfl, ?_⟩) (by assumption) ?_; rotate_left; (focus (intro w hSw; (try dsimp only at hSw); go_simp; (try with_reducible rfl); done)); simp only [Act.put, List.setIfInBounds_toArray, List.set_cons_zero, List.set_cons_succ]
    refine wpAnyH_take (i := 5) (oi := ⟨_, _, _, _, _, _⟩) (v := ?_) rfl (by kernel_rfl) (by kernel_rfl) (by kernel_rfl) (fun _ _ _ h => h) (Or.inl ⟨by rfl, ?_⟩) (by assumption) ?_; rotate_left; (focus (intro w hSw; (try dsimp only at hSw); go_simp; (try with_reducible rfl); done)); simp only [Act.put, List.setIfInBounds_toArray, List.set_cons_zero, List.set_cons_succ]
    refine wpAnyH_take (i := 6) (oi := ⟨_, _, _, _, _, _⟩) (v := ?_) rfl (by kernel_rfl) (by kernel_rfl) (by kernel_rfl) (fun _ _ _ h => h) (Or.inl ⟨by rfl, ?_⟩) (by assumption) ?_; rotate_left; (focus (intro w hSw; (try dsimp only at hSw); go_simp; (try with_reducible rfl); done)); simp only [Act.put, List.setIfInBounds_toArray, List.set_cons_zero, List.set_cons_succ]
    refine wpAnyH_take (i := 7) (oi := ⟨_, _, _, _, _, _⟩) (v := ?_) rfl (by kernel_rfl) (by kernel_rfl) (by kernel_rfl) (fun _ _ _ h => h) (Or.inl ⟨by rfl, ?_⟩) (by assumption) ?_; rotate_left; (focus (intro w hSw; (try dsimp only at hSw); go_simp; (try with_reducible rfl); done)); simp only [Act.put, List.setIfInBounds_toArray, List.set_cons_zero, List.set_cons_succ]
    refine wpAnyH_take (i := 8) (oi := ⟨_, _, _, _, _, _⟩) (v := ?_) rfl (by kernel_rfl) (by kernel_rfl) (by kernel_rfl) (fun _ _ _ h => h) (Or.inl ⟨by rfl, ?_⟩) (by assumption) ?_; rotate_left; (focus (intro w hSw; (try dsimp only at hSw); go_simp; (try with_reducible rfl); done)); simp only [Act.put, List.setIfInBounds_toArray, List.set_cons_zero, List.set_cons_succ]
    refine wpAnyH_take (i := 9) (oi := ⟨_, _, _, _, _, _⟩) (v := ?_) rfl (by kernel_rfl) (by kernel_rfl) (by kernel_rfl) (fun _ _ _ h => h) (Or.inl ⟨by rfl, ?_⟩) (by assumption) ?_; rotate_left; (focus (intro w hSw; (try dsimp only at hSw); go_simp; (try with_reducible rfl); done)); simp only [Act.put, List.setIfInBounds_toArray, List.set_cons_zero, List.set_cons_succ]
    refine wpAnyH_take (i := 10) (oi := ⟨_, _, _, _, _, _⟩) (v := ?_) rfl (by kernel_rfl) (by kernel_rfl) (by kernel_rfl) (fun _ _ _ h => h) (Or.inl ⟨by rfl, ?_⟩) (by assumption) ?_; rotate_left; (focus (intro w hSw; (try dsimp only at hSw); go_simp; (try with_reducible rfl); done)); simp only [Act.put, List.setIfInBounds_toArray, List.set_cons_zero, List.set_cons_succ]
    refine wpAnyH_take (i := 11) (oi := ⟨_, _, _, _, _, _⟩) (v := ?_) rfl (by kernel_rfl) (by kernel_rfl) (by kernel_rfl) (fun _ _ _ h => h) (Or.inl ⟨by rfl, ?_⟩) (by assumption) ?_; rotate_left; (focus (intro w hSw; (try dsimp only at hSw); go_simp; (try with_reducible rfl); done)); simp only [Act.put, List.setIfInBounds_toArray, List.set_cons_zero, List.set_cons_succ]
    refine wpAnyH_done (by kernel_rfl) ?_ _
    go_wp2
    go_meet
    exact ⟨rfl, rfl⟩
  case rest =>
    obtain ⟨rfl, rfl⟩ := hcut
    clear c2 c3
    have c3 := H3.out.c3
    have hr1 := look2_yes H3.out x HMX.out t HTX.out true
    have hrn := HRN5.out
    have x1 := cell_block HXB.out 1
    have x8 := cell_block HXB.out 8
    have x11 := cell_block HXB.out 11
    have x12 := cell_block HXB.out 12
    have x13 := cell_block HXB.out 13
    have x14 := cell_block HXB.out 14
    have x15 := cell_block HXB.out 15
    simp only [List.getElem?_toArray, List.getElem?_cons_zero, List.getElem?_cons_succ] at x1 x8 x11 x12 x13 x14 x15
    rw [Q2.out] at x15
    go_wp2_with fail
    refine wp_region_held_drew (S := (fun w' => w'.cell? ⟨b, 12, none⟩ = some (.int .i64 x.untl))) (by kernel_rfl) ?_ (fun hHeld => ?_)
    focus ((try dsimp only); (exact x12); done)
    refine wpAnyH_take (i := 0) (oi := ⟨_, _, _, _, _, _⟩) (v := ?_) rfl (by kernel_rfl) (by kernel_rfl) (by kernel_rfl) (fun _ _ _ h => h) (Or.inl ⟨by rfl, ?_⟩) (by assumption) ?_; rotate_left; (focus (intro w hSw; (try dsimp only at hSw); go_simp; (try with_reducible rfl); done)); simp only [Act.put, List.setIfInBounds_toArray, List.set_cons_zero, List.set_cons_succ]
    refine wpAnyH_take (i := 2) (oi := ⟨_, _, _, _, _, _⟩) (v := ?_) rfl (by kernel_rfl) (by kernel_rfl) (by kernel_rfl) (fun _ _ _ h => h) (Or.inl ⟨by rfl, ?_⟩) (by assumption) ?_; rotate_left; (focus (intro w hSw; (try dsimp only at hSw); go_simp; (try with_reducible rfl); done)); simp only [Act.put, List.setIfInBounds_toArray, List.set_cons_zero, List.set_cons_succ]
    refine wpAnyH_take (i := 3) (oi := ⟨_, _, _, _, _, _⟩) (v := ?_) rfl (by kernel_rfl) (by kernel_rfl) (by kernel_rfl) (fun _ _ _ h => h) (Or.inl ⟨by rfl, ?_⟩) (by assumption) ?_; rotate_left; (focus (intro w hSw; (try dsimp only at hSw); go_simp; (try with_reducible rfl); done)); simp only [Act.put, List.setIfInBounds_toArray, List.set_cons_zero, List.set_cons_succ]
    refine wpAnyH_take (i := 4) (oi := ⟨_, _, _, _, _, _⟩) (v := ?_) rfl (by kernel_rfl) (by kernel_rfl) (by kernel_rfl) (fun _ _ _ h => h) (Or.inl ⟨by rfl, ?_⟩) (by assumption) ?_; rotate_left; (focus (intro w hSw; (try dsimp only at hSw); go_simp; (try with_reducible rfl); done)); simp only [Act.put, List.setIfInBounds_toArray, List.set_cons_zero, List.set_cons_succ]
    refine wpAnyH_take (i := 5) (oi := ⟨_, _, _, _, _, _⟩) (v := ?_) rfl (by kernel_rfl) (by kernel_rfl) (by kernel_rfl) (fun _ _ _ h => h) (Or.inl ⟨by rfl, ?_⟩) (by assumption) ?_; rotate_left; (focus (intro w hSw; (try dsimp only at hSw); go_simp; (try with_reducible rfl); done)); simp only [Act.put, List.setIfInBounds_toArray, List.set_cons_zero, List.set_cons_succ]
    refine wpAnyH_ready (rs := [1]) (by kernel_rfl) (by simp) ?_
    refine AllReadyH.cons (o := ⟨_, _, _, _, _, _⟩) rfl (fun K hK => ?_) AllReadyH.nil
    go_simp
    go_wp2_with fail
    refine (add_any now 0 _).mono ?_
    rintro e wn ⟨rfl, rfl⟩
    (try go_wp2_with fail)
    refine hK.out _ _ ?_ (fun hHeld => ?_)
    focus ((try dsimp only); (exact x12); done)
    clear hK K
    (try simp only [Act.put, List.setIfInBounds_toArray, List.set_cons_zero, List.set_cons_succ])
    refine wpAnyH_take (i := 6) (oi := ⟨_, _, _, _, _, _⟩) (v := ?_) rfl (by kernel_rfl) (by kernel_rfl) (by kernel_rfl) (fun _ _ _ h => h) (Or.inl ⟨by rfl, ?_⟩) (by assumption) ?_; rotate_left; (focus (intro w hSw; (try dsimp only at hSw); go_simp; (try with_reducible rfl); done)); simp only [Act.put, List.setIfInBounds_toArray, List.set_cons_zero, List.set_cons_succ]
    refine wpAnyH_take (i := 7) (oi := ⟨_, _, _, _, _, _⟩) (v := ?_) rfl (by kernel_rfl) (by kernel_rfl) (by kernel_rfl) (fun _ _ _ h => h) (Or.inl ⟨by rfl, ?_⟩) (by assumption) ?_; rotate_left; (focus (intro w hSw; (try dsimp only at hSw); go_simp; (try with_reducible rfl); done)); simp only [Act.put, List.setIfInBounds_toArray, List.set_cons_zero, List.set_cons_succ]
    refine wpAnyH_done (by kernel_rfl) ?_ _
    go_wp2_with fail
    refine (word_is n _ hn true Q4.out).mono ?_
    rintro e w1 ⟨rfl, rfl⟩
    go_wp2_with fail
    refine (within_is B A m d x.g.scopes.length cc sc x.g.scopes _ (HS3.out.below ((Below.refl _ _).drew)) (HSX.out.below ((Below.refl _ _).drew)) HSH.out HSHX.out.1 (by omega) (by have := HSHX.out.2; omega) (HM3.out.below ((Below.refl _ _).drew)) true Q6.out).mono ?_
    rintro e w1 ⟨rfl, rfl⟩
    go_wp2_with fail
    obtain ⟨w5, hw5⟩ : ∃ w5, w5 = (w.alloc (.cells #[.string ⟨#[]⟩, .string ⟨#[]⟩, .string ⟨#[]⟩, .string ⟨#[]⟩, .string ⟨#[]⟩, .string ⟨#[]⟩, .string ⟨#[]⟩, .int .i64 0, .slice none 0 0, .int .i64 0, .int .i64 0] 35)).drew.drew := ⟨_, rfl⟩
    rw [← hw5]
    have HB5 := Lib.hid (show Below w.heap.size w w5 by rw [hw5]; go_grown)
    have H5 := Lib.hid (show RepP w5 S I F st M1 M2 pl from HW.out.below HB5.out)
    have HZ5 := Lib.hid (show w5.heap[w.heap.size]? = some (.cells #[.string ⟨#[]⟩, .string ⟨#[]⟩, .string ⟨#[]⟩, .string ⟨#[]⟩, .string ⟨#[]⟩, .string ⟨#[]⟩, .string ⟨#[]⟩, .int .i64 0, .slice none 0 0, .int .i64 0, .int .i64 0] 35 (0, 0)) by rw [hw5]; exact heap_alloc_new w _)
    have HXB5 := Lib.hid (show w5.heap[b]? = some (.cells #[.string x.g.user, .string x.g.client, .string x.g.tenant, .string x.g.session, .string x.g.redirect, .string x.g.nonce, .string x.g.challenge, .int .i64 x.g.method, (.slice A x.g.scopes.length cc), .int .i64 x.g.auth, .int .i64 x.g.level, .int .i64 x.fin, .int .i64 x.untl, .int .i64 (x.toks.length : Nat), .string (cur x), .bool false] 75 (0, 0)) by have := HXB.out; rw [Q2.out] at this; rw [hw5]; exact this)
    have HSX5 := Lib.hid (show Ss w5 A x.g.scopes.length cc x.g.scopes by rw [hw5]; exact HSX.out.below ((Below.refl _ _).drew))
    have HS5 := Lib.hid (show Ss w5 B m d sc by rw [hw5]; exact HS3.out.below ((Below.refl _ _).drew))
    obtain ⟨w6, hu, hc3, hlk, hk6, hMb, hFb, ht6, hfin⟩ := rep_rot H5.out HX.out HBP.out HTX.out HWN.out HTN.out (now := now) q7
    have HU := Lib.hid hu
    have HC3 := Lib.hid hc3
    have HLK := Lib.hid hlk
    have HK6 := Lib.hid hk6
    have HMB2 := Lib.hid hMb
    have HFB := Lib.hid hFb
    have HT6 := Lib.hid ht6
    have HFIN := Lib.hid hfin
    have HBL := Lib.hid (show b < w.heap.size from HLT.out b HSB.out.1)
    have HXB6 := Lib.hid (show w6.heap[b]? = some (.cells #[.string x.g.user, .string x.g.client, .string x.g.tenant, .string x.g.session, .string x.g.redirect, .string x.g.nonce, .string x.g.challenge, .int .i64 x.g.method, (.slice A x.g.scopes.length cc), .int .i64 x.g.auth, .int .i64 x.g.level, .int .i64 x.fin, .int .i64 x.untl, .int .i64 (x.toks.length : Nat), .string (cur x), .bool false] 75 (0, 0)) from (hk6 b (Nat.lt_of_lt_of_le HBL.out HB5.out.size) (fun e => hMb e.symm)).trans HXB5.out)
    clear hw5 hu hc3 hlk hk6 hMb hFb ht6 hfin c3 hr1 hrn x1 x8 x11 x12 x13 x14 x15
    refine wp_region_held_drew (S := (fun w' => w'.cell? ⟨F, 3, none⟩ = some (.map (some M2)) ∧ (Instr.lookup 62 (.map (some M2)) (.string t) false).run Try.prog w' = .ok (.string x.id) w')) (by kernel_rfl) ?_ (fun hHeld => ?_)
    focus ((try dsimp only); (first | exact ⟨HC3.out, HLK.out⟩ | exact ⟨H5.out.c3, look2_yes (H5.out.below ((Below.refl _ _).drew)) x HMX.out t HTX.out false⟩); done)
    refine wpAnyH_take (i := 0) (oi := ⟨_, _, _, _, _, _⟩) (v := ?_) rfl (by kernel_rfl) (by kernel_rfl) (by kernel_rfl) (fun _ _ _ h => h) (Or.inl ⟨by rfl, ?_⟩) (by assumption) ?_; rotate_left; (focus (intro w hSw; (try dsimp only at hSw); go_simp; (try with_reducible rfl); done)); simp only [Act.put, List.setIfInBounds_toArray, List.set_cons_zero, List.set_cons_succ]
    refine wpAnyH_take (i := 1) (oi := ⟨_, _, _, _, _, _⟩) (v := ?_) rfl (by kernel_rfl) (by kernel_rfl) (by kernel_rfl) (fun _ _ _ h => h) (Or.inl ⟨by rfl, ?_⟩) (by assumption) ?_; rotate_left; (focus (intro w hSw; (try dsimp only at hSw); go_simp; (try with_reducible rfl); done)); simp only [Act.put, List.setIfInBounds_toArray, List.set_cons_zero, List.set_cons_succ]
    refine wpAnyH_take (i := 2) (oi := ⟨_, _, _, _, _, _⟩) (v := ?_) rfl (by kernel_rfl) (by kernel_rfl) (by kernel_rfl) (fun _ _ _ h => h) (Or.inl ⟨by rfl, ?_⟩) (by assumption) ?_; rotate_left; (focus (intro w hSw; (try dsimp only at hSw); go_simp; (try with_reducible rfl); done)); simp only [Act.put, List.setIfInBounds_toArray, List.set_cons_zero, List.set_cons_succ]
    refine wpAnyH_take (i := 3) (oi := ⟨_, _, _, _, _, _⟩) (v := ?_) rfl (by kernel_rfl) (by kernel_rfl) (by kernel_rfl) (fun _ _ _ h => h) (Or.inl ⟨by rfl, ?_⟩) (by assumption) ?_; rotate_left; (focus (intro w hSw; (try dsimp only at hSw); go_simp; (try with_reducible rfl); done)); simp only [Act.put, List.setIfInBounds_toArray, List.set_cons_zero, List.set_cons_succ]
    refine wpAnyH_take (i := 4) (oi := ⟨_, _, _, _, _, _⟩) (v := ?_) rfl (by kernel_rfl) (by kernel_rfl) (by kernel_rfl) (fun _ _ _ h => h) (Or.inl ⟨by rfl, ?_⟩) (by assumption) ?_; rotate_left; (focus (intro w hSw; (try dsimp only at hSw); go_simp; (try with_reducible rfl); done)); simp only [Act.put, List.setIfInBounds_toArray, List.set_cons_zero, List.set_cons_succ]
    refine wpAnyH_take (i := 5) (oi := ⟨_, _, _, _, _, _⟩) (v := ?_) rfl (by kernel_rfl) (by kernel_rfl) (by kernel_rfl) (fun _ _ _ h => h) (Or.inl ⟨by rfl, ?_⟩) (by assumption) ?_; rotate_left; (focus (intro w hSw; (try dsimp only at hSw); go_simp; (try with_reducible rfl); done)); simp only [Act.put, List.setIfInBounds_toArray, List.set_cons_zero, List.set_cons_succ]
    refine wpAnyH_take (i := 6) (oi := ⟨_, _, _, _, _, _⟩) (v := ?_) rfl (by kernel_rfl) (by kernel_rfl) (by kernel_rfl) (fun _ _ _ h => h) (Or.inl ⟨by rfl, ?_⟩) (by assumption) ?_; rotate_left; (focus (intro w hSw; (try dsimp only at hSw); go_simp; (try with_reducible rfl); done)); simp only [Act.put, List.setIfInBounds_toArray, List.set_cons_zero, List.set_cons_succ]
    refine wpAnyH_take (i := 7) (oi := ⟨_, _, _, _, _, _⟩) (v := ?_) rfl (by kernel_rfl) (by kernel_rfl) (by kernel_rfl) (fun _ _ _ h => h) (Or.inl ⟨by rfl, ?_⟩) (by assumption) ?_; rotate_left; (focus (intro w hSw; (try dsimp only at hSw); go_simp; (try with_reducible rfl); done)); simp only [Act.put, List.setIfInBounds_toArray, List.set_cons_zero, List.set_cons_succ]
    refine wpAnyH_take (i := 8) (oi := ⟨_, _, _, _, _, _⟩) (v := ?_) rfl (by kernel_rfl) (by kernel_rfl) (by kernel_rfl) (fun _ _ _ h => h) (Or.inl ⟨by rfl, ?_⟩) (by assumption) ?_; rotate_left; (focus (intro w hSw; (try dsimp only at hSw); go_simp; (try with_reducible rfl); done)); simp only [Act.put, List.setIfInBounds_toArray, List.set_cons_zero, List.set_cons_succ]
    refine wpAnyH_take (i := 9) (oi := ⟨_, _, _, _, _, _⟩) (v := ?_) rfl (by kernel_rfl) (by kernel_rfl) (by kernel_rfl) (fun _ _ _ h => h) (Or.inl ⟨by rfl, ?_⟩) (by assumption) ?_; rotate_left; (focus (intro w hSw; (try dsimp only at hSw); go_simp; (try with_reducible rfl); done)); simp only [Act.put, List.setIfInBounds_toArray, List.set_cons_zero, List.set_cons_succ]
    refine wpAnyH_take (i := 10) (oi := ⟨_, _, _, _, _, _⟩) (v := ?_) rfl (by kernel_rfl) (by kernel_rfl) (by kernel_rfl) (fun _ _ _ h => h) (Or.inl ⟨by rfl, ?_⟩) (by assumption) ?_; rotate_left; (focus (intro w hSw; (try dsimp only at hSw); go_simp; (try with_reducible rfl); done)); simp only [Act.put, List.setIfInBounds_toArray, List.set_cons_zero, List.set_cons_succ]
    refine wpAnyH_ready (rs := [11]) (by kernel_rfl) (by simp) ?_
    refine AllReadyH.cons (o := ⟨_, _, _, _, _, _⟩) rfl (fun K hK => ?_) AllReadyH.nil
    go_simp
    rw [HU.out]
    (try go_wp2_with fail)
    refine hK.out _ _ ?_ (fun hHeld => ?_)
    focus ((try dsimp only); (first | exact ⟨HC3.out, HLK.out⟩ | exact ⟨H5.out.c3, look2_yes (H5.out.below ((Below.refl _ _).drew)) x HMX.out t HTX.out false⟩); done)
    clear hK K
    (try simp only [Act.put, List.setIfInBounds_toArray, List.set_cons_zero, List.set_cons_succ])
    refine wpAnyH_done (by kernel_rfl) ?_ _
    have x13 := cell_block HXB6.out 13
    have x14 := cell_block HXB6.out 14
    simp only [List.getElem?_toArray, List.getElem?_cons_zero, List.getElem?_cons_succ] at x13 x14
    have f13 : w6.frozen? ⟨b, 13, none⟩ = false := by have := HXB6.out; simp only [World.frozen?, this]; rfl
    have f14 : w6.frozen? ⟨b, 14, none⟩ = false := by have := HXB6.out; simp only [World.frozen?, this]; rfl
    have gk : IntKind.i64.wrap ((x.toks.length : Int) + 1) = (x.toks.length : Int) + 1 := IntWalk.i64_in _ (by have := HL7.out; omega)
    go_upto_region 28 with fail
    obtain ⟨w8, hw8⟩ : ∃ w8, w8 = (w6.setCell ⟨b, 14, none⟩ (.string n)).setCell ⟨b, 13, none⟩ (.int .i64 ((x.toks.length : Int) + 1)) := ⟨_, rfl⟩
    rw [← hw8]
    have HXB8 := Lib.hid (show w8.heap[b]? = some (.cells #[.string x.g.user, .string x.g.client, .string x.g.tenant, .string x.g.session, .string x.g.redirect, .string x.g.nonce, .string x.g.challenge, .int .i64 x.g.method, (.slice A x.g.scopes.length cc), .int .i64 x.g.auth, .int .i64 x.g.level, .int .i64 x.fin, .int .i64 x.untl, .int .i64 ((x.toks.length : Int) + 1), .string n, .bool false] 75 (0, 0)) by rw [hw8]; exact heap_setCell_same _ b 13 _ _ _ (heap_setCell_same w6 b 14 _ _ _ HXB6.out))
    have HK8 := Lib.hid (show ∀ k, k ≠ b → w8.heap[k]? = w6.heap[k]? from fun k hk => by rw [hw8]; exact (Below.heap_setCell _ _ _ _ hk).trans (Below.heap_setCell _ _ _ _ hk))
    have HW8 := Lib.hid hw8
    clear hw8 x13 x14 f13 f14 gk
    have c0 : w8.cell? ⟨F, 0, none⟩ = some (.int .i64 st.life) := by
      have hFl := Nat.lt_of_lt_of_le (HLT.out _ H5.out.sF.1) HB5.out.size
      have hFM : F ≠ M2 := fun e => by
        obtain ⟨f2, m2, _⟩ := H5.out.h2
        obtain ⟨es, cl, hmm⟩ := m2.isMap
        rw [← e, H5.out.hF] at hmm
        cases hmm
      rw [World.cell?_of_block (w := w6) (HK8.out F HFB.out), World.cell?_of_block (w := w5) (HK6.out F hFl hFM)]
      exact H5.out.c0
    have x11 := cell_block HXB8.out 11
    have x12 := cell_block HXB8.out 12
    simp only [List.getElem?_toArray, List.getElem?_cons_zero, List.getElem?_cons_succ] at x11 x12
    have f12 : w8.frozen? ⟨b, 12, none⟩ = false := by have := HXB8.out; simp only [World.frozen?, this]; rfl
    refine wp_region_held_drew (S := (fun w' => w'.cell? ⟨F, 0, none⟩ = some (.int .i64 st.life) ∧ w'.cell? ⟨b, 11, none⟩ = some (.int .i64 x.fin))) (by kernel_rfl) ?_ (fun hHeld => ?_)
    focus ((try dsimp only); (first | exact ⟨c0, x11⟩ | exact ⟨(World.cell?_setCell_other w8 ⟨b, 12, none⟩ ⟨F, 0, none⟩ _ (fun e => HFB.out (by injection e with e1; exact e1.symm))).trans c0, (World.cell?_setCell_other w8 ⟨b, 12, none⟩ ⟨b, 11, none⟩ _ (by simp)).trans x11⟩); done)
    refine wpAnyH_take (i := 0) (oi := ⟨_, _, _, _, _, _⟩) (v := ?_) rfl (by kernel_rfl) (by kernel_rfl) (by kernel_rfl) (fun _ _ _ h => h) (Or.inl ⟨by rfl, ?_⟩) (by assumption) ?_; rotate_left; (focus (intro w hSw; (try dsimp only at hSw); go_simp; (try with_reducible rfl); done)); simp only [Act.put, List.setIfInBounds_toArray, List.set_cons_zero, List.set_cons_succ]
    refine wpAnyH_take (i := 1) (oi := ⟨_, _, _, _, _, _⟩) (v := ?_) rfl (by kernel_rfl) (by kernel_rfl) (by kernel_rfl) (fun _ _ _ h => h) (Or.inl ⟨by rfl, ?_⟩) (by assumption) ?_; rotate_left; (focus (intro w hSw; (try dsimp only at hSw); go_simp; (try with_reducible rfl); done)); simp only [Act.put, List.setIfInBounds_toArray, List.set_cons_zero, List.set_cons_succ]
    refine wpAnyH_take (i := 2) (oi := ⟨_, _, _, _, _, _⟩) (v := ?_) rfl (by kernel_rfl) (by kernel_rfl) (by kernel_rfl) (fun _ _ _ h => h) (Or.inl ⟨by rfl, ?_⟩) (by assumption) ?_; rotate_left; (focus (intro w hSw; (try dsimp only at hSw); go_simp; (try with_reducible rfl); done)); simp only [Act.put, List.setIfInBounds_toArray, List.set_cons_zero, List.set_cons_succ]
    refine wpAnyH_take (i := 3) (oi := ⟨_, _, _, _, _, _⟩) (v := ?_) rfl (by kernel_rfl) (by kernel_rfl) (by kernel_rfl) (fun _ _ _ h => h) (Or.inl ⟨by rfl, ?_⟩) (by assumption) ?_; rotate_left; (focus (intro w hSw; (try dsimp only at hSw); go_simp; (try with_reducible rfl); done)); simp only [Act.put, List.setIfInBounds_toArray, List.set_cons_zero, List.set_cons_succ]
    refine wpAnyH_take (i := 4) (oi := ⟨_, _, _, _, _, _⟩) (v := ?_) rfl (by kernel_rfl) (by kernel_rfl) (by kernel_rfl) (fun _ _ _ h => h) (Or.inl ⟨by rfl, ?_⟩) (by assumption) ?_; rotate_left; (focus (intro w hSw; (try dsimp only at hSw); go_simp; (try with_reducible rfl); done)); simp only [Act.put, List.setIfInBounds_toArray, List.set_cons_zero, List.set_cons_succ]
    refine wpAnyH_take (i := 5) (oi := ⟨_, _, _, _, _, _⟩) (v := ?_) rfl (by kernel_rfl) (by kernel_rfl) (by kernel_rfl) (fun _ _ _ h => h) (Or.inl ⟨by rfl, ?_⟩) (by assumption) ?_; rotate_left; (focus (intro w hSw; (try dsimp only at hSw); go_simp; (try with_reducible rfl); done)); simp only [Act.put, List.setIfInBounds_toArray, List.set_cons_zero, List.set_cons_succ]
    refine wpAnyH_take (i := 7) (oi := ⟨_, _, _, _, _, _⟩) (v := ?_) rfl (by kernel_rfl) (by kernel_rfl) (by kernel_rfl) (fun _ _ _ h => h) (Or.inl ⟨by rfl, ?_⟩) (by assumption) ?_; rotate_left; (focus (intro w hSw; (try dsimp only at hSw); go_simp; (try with_reducible rfl); done)); simp only [Act.put, List.setIfInBounds_toArray, List.set_cons_zero, List.set_cons_succ]
    refine wpAnyH_take (i := 8) (oi := ⟨_, _, _, _, _, _⟩) (v := ?_) rfl (by kernel_rfl) (by kernel_rfl) (by kernel_rfl) (fun _ _ _ h => h) (Or.inl ⟨by rfl, ?_⟩) (by assumption) ?_; rotate_left; (focus (intro w hSw; (try dsimp only at hSw); go_simp; (try with_reducible rfl); done)); simp only [Act.put, List.setIfInBounds_toArray, List.set_cons_zero, List.set_cons_succ]
    refine wpAnyH_take (i := 9) (oi := ⟨_, _, _, _, _, _⟩) (v := ?_) rfl (by kernel_rfl) (by kernel_rfl) (by kernel_rfl) (fun _ _ _ h => h) (Or.inl ⟨by rfl, ?_⟩) (by assumption) ?_; rotate_left; (focus (intro w hSw; (try dsimp only at hSw); go_simp; (try with_reducible rfl); done)); simp only [Act.put, List.setIfInBounds_toArray, List.set_cons_zero, List.set_cons_succ]
    refine wpAnyH_take (i := 10) (oi := ⟨_, _, _, _, _, _⟩) (v := ?_) rfl (by kernel_rfl) (by kernel_rfl) (by kernel_rfl) (fun _ _ _ h => h) (Or.inl ⟨by rfl, ?_⟩) (by assumption) ?_; rotate_left; (focus (intro w hSw; (try dsimp only at hSw); go_simp; (try with_reducible rfl); done)); simp only [Act.put, List.setIfInBounds_toArray, List.set_cons_zero, List.set_cons_succ]
    refine wpAnyH_ready (rs := [6]) (by kernel_rfl) (by simp) ?_
    refine AllReadyH.cons (o := ⟨_, _, _, _, _, _⟩) rfl (fun K hK => ?_) AllReadyH.nil
    go_simp
    go_wp2_with fail
    refine (add_any now st.life _).mono ?_
    rintro e wn ⟨rfl, rfl⟩
    (try go_wp2_with fail)
    refine hK.out _ _ ?_ (fun hHeld => ?_)
    focus ((try dsimp only); (first | exact ⟨c0, x11⟩ | exact ⟨(World.cell?_setCell_other w8 ⟨b, 12, none⟩ ⟨F, 0, none⟩ _ (fun e => HFB.out (by injection e with e1; exact e1.symm))).trans c0, (World.cell?_setCell_other w8 ⟨b, 12, none⟩ ⟨b, 11, none⟩ _ (by simp)).trans x11⟩); done)
    clear hK K
    (try simp only [Act.put, List.setIfInBounds_toArray, List.set_cons_zero, List.set_cons_succ])
    refine wpAnyH_ready (rs := [11]) (by kernel_rfl) (by simp) ?_
    refine AllReadyH.cons (o := ⟨_, _, _, _, _, _⟩) rfl (fun K hK => ?_) AllReadyH.nil
    go_simp
    (try go_wp2_with fail)
    refine hK.out _ _ ?_ (fun hHeld => ?_)
    focus ((try dsimp only); (first | exact ⟨c0, x11⟩ | exact ⟨(World.cell?_setCell_other w8 ⟨b, 12, none⟩ ⟨F, 0, none⟩ _ (fun e => HFB.out (by injection e with e1; exact e1.symm))).trans c0, (World.cell?_setCell_other w8 ⟨b, 12, none⟩ ⟨b, 11, none⟩ _ (by simp)).trans x11⟩); done)
    clear hK K
    (try simp only [Act.put, List.setIfInBounds_toArray, List.set_cons_zero, List.set_cons_succ])
    refine wpAnyH_take (i := 12) (oi := ⟨_, _, _, _, _, _⟩) (v := ?_) rfl (by kernel_rfl) (by kernel_rfl) (by kernel_rfl) (fun _ _ _ h => h) (Or.inl ⟨by rfl, ?_⟩) (by assumption) ?_; rotate_left; (focus (intro w hSw; (try dsimp only at hSw); go_simp; (try with_reducible rfl); done)); simp only [Act.put, List.setIfInBounds_toArray, List.set_cons_zero, List.set_cons_succ]
    refine wpAnyH_take (i := 13) (oi := ⟨_, _, _, _, _, _⟩) (v := ?_) rfl (by kernel_rfl) (by kernel_rfl) (by kernel_rfl) (fun _ _ _ h => h) (Or.inl ⟨by rfl, ?_⟩) (by assumption) ?_; rotate_left; (focus (intro w hSw; (try dsimp only at hSw); go_simp; (try with_reducible rfl); done)); simp only [Act.put, List.setIfInBounds_toArray, List.set_cons_zero, List.set_cons_succ]
    refine wpAnyH_ready (rs := [14]) (by kernel_rfl) (by simp) ?_
    refine AllReadyH.cons (o := ⟨_, _, _, _, _, _⟩) rfl (fun K hK => ?_) AllReadyH.nil
    go_simp
    (try go_wp2_with fail)
    refine hK.out _ _ ?_ (fun hHeld => ?_)
    focus ((try dsimp only); (first | exact ⟨c0, x11⟩ | exact ⟨(World.cell?_setCell_other w8 ⟨b, 12, none⟩ ⟨F, 0, none⟩ _ (fun e => HFB.out (by injection e with e1; exact e1.symm))).trans c0, (World.cell?_setCell_other w8 ⟨b, 12, none⟩ ⟨b, 11, none⟩ _ (by simp)).trans x11⟩); done)
    clear hK K
    (try simp only [Act.put, List.setIfInBounds_toArray, List.set_cons_zero, List.set_cons_succ])
    refine wpAnyH_done (by kernel_rfl) ?_ _
    go_upto_region 29 with fail
    obtain ⟨w9, hw9⟩ : ∃ w9, w9 = (w8.setCell ⟨b, 12, none⟩ (.int .i64 (min (addC now st.life) x.fin))).drew := ⟨_, rfl⟩
    rw [← hw9]
    have HXB9 := Lib.hid (show w9.heap[b]? = some (.cells #[.string x.g.user, .string x.g.client, .string x.g.tenant, .string x.g.session, .string x.g.redirect, .string x.g.nonce, .string x.g.challenge, .int .i64 x.g.method, (.slice A x.g.scopes.length cc), .int .i64 x.g.auth, .int .i64 x.g.level, .int .i64 x.fin, .int .i64 (min (addC now st.life) x.fin), .int .i64 ((x.toks.length : Int) + 1), .string n, .bool false] 75 (0, 0)) by
      rw [hw9]
      exact upd12 HXB8.out)
    have HM69 := Lib.hid (show Mods (fun k => k = b) w6 w9 by rw [hw9, HW8.out]; exact ((((Mods.refl (fun k => k = b) w6).setCell (p := ⟨b, 14, none⟩) (Or.inl rfl) (.string n)).setCell (p := ⟨b, 13, none⟩) (Or.inl rfl) (.int .i64 ((x.toks.length : Int) + 1))).setCell (p := ⟨b, 12, none⟩) (Or.inl rfl) (.int .i64 (min (addC now st.life) x.fin))).drew)
    have HM9 := Lib.hid (show Mods S w w9 by
      rw [hw9, HW8.out]
      exact (((((Mods.of_below S HB5.out).drew.turned HT6.out (Or.inl H5.out.s2.1)).setCell (p := ⟨b, 14, none⟩) (Or.inl HSB.out.1) (.string n)).setCell (p := ⟨b, 13, none⟩) (Or.inl HSB.out.1) (.int .i64 ((x.toks.length : Int) + 1))).setCell (p := ⟨b, 12, none⟩) (Or.inl HSB.out.1) (.int .i64 (min (addC now st.life) x.fin))).drew)
    have HZ6 := Lib.hid (show w5.heap.size ≤ w6.heap.size from HT6.out.grown.size)
    have HK59 := Lib.hid (show ∀ k, k < w5.heap.size → k ≠ M2 → k ≠ b → w9.heap[k]? = w5.heap[k]? from fun k h1 h2 h3 => (HM69.out.block k (Nat.lt_of_lt_of_le h1 HZ6.out) h3).trans (HK6.out k h1 h2))
    have HREP9 := Lib.hid (HFIN.out w9 A cc (HXB9.out.trans (rotF_cells Q2.out)) HIA.out HSX5.out (fun k hk hne => HM69.out.block k (Nat.lt_of_lt_of_le (H5.out.lt k hk) HZ6.out) hne) HM69.out.size)
    have HZ9 := Lib.hid (show w9.heap[w.heap.size]? = some (.cells #[.string ⟨#[]⟩, .string ⟨#[]⟩, .string ⟨#[]⟩, .string ⟨#[]⟩, .string ⟨#[]⟩, .string ⟨#[]⟩, .string ⟨#[]⟩, .int .i64 0, .slice none 0 0, .int .i64 0, .int .i64 0] 35 (0, 0)) from (HK59.out _ (blk_lt HZ5.out) (fun e => by have := HLT.out _ H5.out.s2.1; omega) (fun e => by have := HBL.out; omega)).trans HZ5.out)
    have HSX9 := Lib.hid (show Ss w9 A x.g.scopes.length cc x.g.scopes from HSX5.out.keep (S := I) HIA.out (fun k hk => HK59.out k (H5.out.lt k (H5.out.sI k hk)) (fun e => H5.out.s2.2 (by rw [← e]; exact hk)) (fun e => HSB.out.2 (by rw [← e]; exact hk))) (Nat.le_trans HZ6.out HM69.out.size))
    clear hw9 x11 x12 f12 c0
    have HS9 := Lib.hid (show Ss w9 B m d sc from HS5.out.keep (S := fun k => k < w5.heap.size ∧ ¬ S k) (fun a ha h0 => by
      obtain ⟨b', off, e, hl, _⟩ := HS5.out.2.2 h0
      refine ⟨by rw [ha] at e; injection e with e; rw [e]; exact hl, HBS.out a ha h0⟩) (fun k hk => HK59.out k hk.1 (fun e => hk.2 (by rw [e]; exact H5.out.s2.1)) (fun e => hk.2 (by rw [e]; exact HSB.out.1))) (Nat.le_trans HZ6.out HM69.out.size))
    have x0 := cell_block HXB9.out 0
    have x1 := cell_block HXB9.out 1
    have x2 := cell_block HXB9.out 2
    have x3 := cell_block HXB9.out 3
    have x4 := cell_block HXB9.out 4
    have x5 := cell_block HXB9.out 5
    have x6 := cell_block HXB9.out 6
    have x7 := cell_block HXB9.out 7
    have x8 := cell_block HXB9.out 8
    have x9 := cell_block HXB9.out 9
    have x10 := cell_block HXB9.out 10
    simp only [List.getElem?_toArray, List.getElem?_cons_zero, List.getElem?_cons_succ] at x0 x1 x2 x3 x4 x5 x6 x7 x8 x9 x10
    go_upto_region 30 with fail
    obtain ⟨wa, hwa⟩ : ∃ wa, wa = w9.alloc (.cells #[.string x.g.user, .string x.g.client, .string x.g.tenant, .string x.g.session, .string x.g.redirect, .string x.g.nonce, .string x.g.challenge, .int .i64 x.g.method, .slice A x.g.scopes.length cc, .int .i64 x.g.auth, .int .i64 x.g.level] 35) := ⟨_, rfl⟩
    rw [← hwa]
    have HBA := Lib.hid (show Below w9.heap.size w9 wa by rw [hwa]; go_grown)
    have HXA := Lib.hid (show wa.heap[w9.heap.size]? = some (.cells #[.string x.g.user, .string x.g.client, .string x.g.tenant, .string x.g.session, .string x.g.redirect, .string x.g.nonce, .string x.g.challenge, .int .i64 x.g.method, .slice A x.g.scopes.length cc, .int .i64 x.g.auth, .int .i64 x.g.level] 35 (0, 0)) by rw [hwa]; exact heap_alloc_new w9 _)
    have HSA := Lib.hid (HS9.out.below HBA.out)
    clear hwa x0 x1 x2 x3 x4 x5 x6 x7 x8 x9 x10
    have hmz : ((m : Int) == 0) = false := by
      have := HM0.out
      exact beq_eq_false_iff_ne.2 (by omega)
    have xa8 := cell_block HXA.out 8
    simp only [List.getElem?_toArray, List.getElem?_cons_zero, List.getElem?_cons_succ] at xa8
    go_upto_region 32 with fail
    have hle : sc.length ≤ 100000 := by have := HS9.out.1; have := HMM.out; omega
    go_wp2_with fail
    refine (clone_any B m d sc wa HSA.out (by have := HMM.out; omega)).mono ?_
    rintro e w1 ⟨B', d', rfl, hown, hb1⟩
    have HXA1 := Lib.hid ((hb1.block _ (blk_lt HXA.out)).trans HXA.out)
    have HOWN := Lib.hid hown
    have HB1 := Lib.hid hb1
    clear hown hb1 hle hmz xa8
    have fa : w1.frozen? ⟨w9.heap.size, 8, none⟩ = false := by have := HXA1.out; simp only [World.frozen?, this]; rfl
    have xa8 := cell_block HXA1.out 8
    simp only [List.getElem?_toArray, List.getElem?_cons_zero, List.getElem?_cons_succ] at xa8
    go_upto_region 33 with fail
    obtain ⟨wb, hwb⟩ : ∃ wb, wb = w1.setCell ⟨w9.heap.size, 8, none⟩ (.slice B' m d') := ⟨_, rfl⟩
    rw [← hwb]
    have HXB := Lib.hid (show wb.heap[w9.heap.size]? = some (.cells #[.string x.g.user, .string x.g.client, .string x.g.tenant, .string x.g.session, .string x.g.redirect, .string x.g.nonce, .string x.g.challenge, .int .i64 x.g.method, .slice B' m d', .int .i64 x.g.auth, .int .i64 x.g.level] 35 (0, 0)) by rw [hwb]; exact heap_setCell_same _ _ 8 _ _ _ HXA1.out)
    have HBB := Lib.hid (show Below w9.heap.size w9 wb by rw [hwb]; exact ((HBA.out).trans (HB1.out.mono HBA.out.size)).setCell (by simp) _)
    have HWB := Lib.hid hwb
    clear hwb fa xa8
    have HZB := Lib.hid ((HBB.out.block _ (blk_lt HZ9.out)).trans HZ9.out)
    have x0 := cell_block HXB.out 0
    have x1 := cell_block HXB.out 1
    have x2 := cell_block HXB.out 2
    have x3 := cell_block HXB.out 3
    have x4 := cell_block HXB.out 4
    have x5 := cell_block HXB.out 5
    have x6 := cell_block HXB.out 6
    have x7 := cell_block HXB.out 7
    have x8 := cell_block HXB.out 8
    have x9 := cell_block HXB.out 9
    have x10 := cell_block HXB.out 10
    simp only [List.getElem?_toArray, List.getElem?_cons_zero, List.getElem?_cons_succ] at x0 x1 x2 x3 x4 x5 x6 x7 x8 x9 x10
    have hown1 : Own1 wb wa.heap.size (.slice B' m d') sc := by rw [HWB.out]; exact ownsRow_setCell_below HOWN.out (by have := HBA.out.size; have := blk_lt HXA.out; simp; omega) _
    have HRI := Lib.hid (rot_fin (HR.out) HLT.out HREP9.out HM9.out HBB.out #[.string x.g.user, .string x.g.client, .string x.g.tenant, .string x.g.session, .string x.g.redirect, .string x.g.nonce, .string x.g.challenge, .int .i64 x.g.method, .slice B' m d', .int .i64 x.g.auth, .int .i64 x.g.level] (Nat.lt_of_lt_of_le (blk_lt HZ9.out) (Nat.le_refl _)) hown1 HBA.out.size (rotG_sc1 (by have := HM0.out; have := HS3.out.1; intro e; rw [e] at this; simp at this; omega)))
    clear hown1
    go_wp2_with (refine wpList_store_row rfl 35 (.tmp 12) (.tmp 164) rfl w.heap.size #[.string x.g.user, .string x.g.client, .string x.g.tenant, .string x.g.session, .string x.g.redirect, .string x.g.nonce, .string x.g.challenge, .int .i64 x.g.method, .slice B' m d', .int .i64 x.g.auth, .int .i64 x.g.level] rfl rfl 35 _ HZB.out (by kernel_rfl) rfl (by first | kernel_rfl | simp [Value.oneCell'] | rfl) ?_)
    obtain ⟨y0, y1, y2, y3, y4, y5, y6, y7, y8, y9, y10⟩ := cells11 (setRow_heap wb w.heap.size _ #[.string x.g.user, .string x.g.client, .string x.g.tenant, .string x.g.session, .string x.g.redirect, .string x.g.nonce, .string x.g.challenge, .int .i64 x.g.method, .slice B' m d', .int .i64 x.g.auth, .int .i64 x.g.level] _ _ HZB.out)
    refine bodyPost_ret (v := .tuple #[.agg #[.string x.g.user, .string x.g.client, .string x.g.tenant, .string x.g.session, .string x.g.redirect, .string x.g.nonce, .string x.g.challenge, .int .i64 x.g.method, .slice B' m d', .int .i64 x.g.auth, .int .i64 x.g.level], .int .i64 0]) (by simp [results, Try.results25, go_sem, y0, y1, y2, y3, y4, y5, y6, y7, y8, y9, y10]) rfl ?_
    exact HRI.out
end Go.Proofs.Ytfeljihbaekfmaa.Rf
