/-
  The program's Issue.
-/
import Derived.Test.YtioabjniipkncaaGreatDoorRcS0
namespace Go.Proofs.YtioabjniipkncaaGreatDoor.Rc
open Go.RowKit Go.Proofs.YtioabjniipkncaaGreatDoor.Fo Go.Proofs.YtioabjniipkncaaGreatDoor.Rf Go.Maps

theorem addC_l (t d : Int) : addC (limI t) d = addC t d := by unfold addC; rw [limI_lim]
def nm5 (t : Bs) (g : Gr) (j : Nat) : Bs := match j with | 0 => t | 1 => g.user | 2 => g.client | 3 => g.tenant | _ => g.session
theorem num_same {w w' : World} {S : Nat → Prop} {F : Nat} {st : Ct} {x : Int} {r : Ct × Int} (hr : r = (st, x)) (h : RepE w S F st) (hb : Below w.heap.size w w') : NumIs w S F r.2 r.1 (.returned (.int .i64 x)) w' := by
  subst hr
  refine ⟨rfl, h.keep (fun _ e => Or.inl e) (fun k e => hb.block k (h.lt k e)) hb.size (fun k e => ?_), Mods.of_below _ hb⟩
  rcases e with e | e
  · exact Nat.lt_of_lt_of_le (h.lt k e) hb.size
  · exact e.2
theorem iss_bad {st : Ct} {t : Bs} {g : Gr} {now k : Int} (h : issE st t g = k) (h0 : k ≠ 0) : iss st t g now = (st, k) := by unfold iss; rw [if_neg (by rw [h]; exact h0), h]
theorem nm_cells {w : World} {b : Nat} {t : Bs} {g : Gr} (h : w.heap[b]? = some (.cells #[.string t, .string g.user, .string g.client, .string g.tenant, .string g.session] 9 (0, 0))) (k : Nat) (hk : k < 5) : w.cell? ⟨b, k, none⟩ = some (.string (nm5 t g k)) := by
  rw [cell_block h k]
  match k, hk with
  | 0, _ => rfl
  | 1, _ => rfl
  | 2, _ => rfl
  | 3, _ => rfl
  | 4, _ => rfl
set_option maxRecDepth 100000 in
set_option maxHeartbeats 8000000 in
theorem iss_any {w : World} {S : Nat → Prop} {F : Nat} {st : Ct} (h : RepE w S F st) (t : Bs) (g : Gr) (A : Option Addr) (c : Nat) (now : Int) (ht : t.size ≤ 100000) (hsz : g.user.size ≤ 100000 ∧ g.client.size ≤ 100000 ∧ g.tenant.size ≤ 100000 ∧ g.session.size ≤ 100000 ∧ g.redirect.size ≤ 100000 ∧ g.nonce.size ≤ 100000 ∧ g.challenge.size ≤ 100000)
    (hs : Ss w A g.scopes.length c g.scopes) (hsh : Short g.scopes) (hn : g.scopes.length ≤ 1000) (hm : MX w) :
    Calls Tryz.prog 15 #[.pointer (some ⟨F, 0, none⟩), .string t, .agg #[.string g.user, .string g.client, .string g.tenant, .string g.session, .string g.redirect, .string g.nonce, .string g.challenge, .int .i64 g.method, (.slice A g.scopes.length c), .int .i64 g.auth, .int .i64 g.level], .int .i64 now] w (NumIs w S F (iss st t g now).2 (iss st t g now).1) := by
  have HE := Lib.hid h
  obtain ⟨I, M, pl, h⟩ := h
  have H := Lib.hid h
  have HS := Lib.hid hs
  have HM := Lib.hid hm
  have HSH := Lib.hid hsh
  have HSZ := Lib.hid hsz
  have HN5 := Lib.hid (show ∀ k, (nm5 t g k).size ≤ 100000 from fun k => by unfold nm5; split <;> omega)
  clear h hs hm hsh hsz
  go_enter Tryz.func15, Tryz.ntmps15
  go_upto_region 1 with fail
  obtain ⟨w0, hw0⟩ : ∃ w0, w0 = w.alloc (.cells #[.string g.user, .string g.client, .string g.tenant, .string g.session, .string g.redirect, .string g.nonce, .string g.challenge, .int .i64 g.method, (.slice A g.scopes.length c), .int .i64 g.auth, .int .i64 g.level] 36) := ⟨_, rfl⟩
  rw [← hw0]
  have HB0 := Lib.hid (show Below w.heap.size w w0 by rw [hw0]; go_grown)
  have HX0 := Lib.hid (show w0.heap[w.heap.size]? = some (.cells #[.string g.user, .string g.client, .string g.tenant, .string g.session, .string g.redirect, .string g.nonce, .string g.challenge, .int .i64 g.method, (.slice A g.scopes.length c), .int .i64 g.auth, .int .i64 g.level] 36 (0, 0)) by rw [hw0]; exact heap_alloc_new _ _)
  clear hw0
  have H0 := Lib.hid (H.out.below HB0.out)
  have x0 := cell_block HX0.out 0
  have x1 := cell_block HX0.out 1
  have x2 := cell_block HX0.out 2
  have x3 := cell_block HX0.out 3
  simp only [List.getElem?_toArray, List.getElem?_cons_zero, List.getElem?_cons_succ] at x0 x1 x2 x3
  go_wp2_with fail
  refine (made_yes H0.out).mono ?_
  rintro e w1 ⟨rfl, rfl⟩
  go_upto_region 4 with fail
  obtain ⟨w1, hw1⟩ : ∃ w1, w1 = w0.alloc (.cells #[.string t, .string g.user, .string g.client, .string g.tenant, .string g.session] 9) := ⟨_, rfl⟩
  rw [← hw1]
  have hb1 : Below w0.heap.size w0 w1 := by rw [hw1]; go_grown
  have HQ := Lib.hid (show w1.heap[w0.heap.size]? = some (.cells #[.string t, .string g.user, .string g.client, .string g.tenant, .string g.session] 9 (0, 0)) by rw [hw1]; exact heap_alloc_new _ _)
  have HB1 := Lib.hid (HB0.out.trans (hb1.mono HB0.out.size))
  have HX1 := Lib.hid ((hb1.block _ (blk_lt HX0.out)).trans HX0.out)
  have H1 := Lib.hid (H0.out.below hb1)
  clear hw1 hb1 x0 x1 x2 x3
  go_loopw [10, 26] (fun _ i wr => ∃ k : Nat, i = .int .i64 k ∧ k ≤ 5 ∧ wr = w1 ∧ Hid (∀ j, j < k → wrd (nm5 t g j) = true)) (fun _ i _ => 5 - (intOf i).toNat)
  case atStart => exact ⟨0, rfl, by omega, rfl, fun j hj => absurd hj (Nat.not_lt_zero _)⟩
  case round =>
    obtain ⟨k, rfl, hk, hwr, HALL⟩ := hrel
    obtain rfl : w1 = wr := hwr.symm
    clear hwr
    by_cases hlt : k < 5
    · have hcell := nm_cells HQ.out k hlt
      cases hq : wrd (nm5 t g k) with
      | false =>
        have Q := Lib.hid hq
        have HR := Lib.hid (iss_bad (st := st) (t := t) (g := g) (now := now) (k := 5) (by
          unfold issE
          rw [if_pos]
          match k, hlt, hq with
          | 0, _, h => exact Or.inl h
          | 1, _, h => exact Or.inr (Or.inl h)
          | 2, _, h => exact Or.inr (Or.inr (Or.inl h))
          | 3, _, h => exact Or.inr (Or.inr (Or.inr (Or.inl h)))
          | 4, _, h => exact Or.inr (Or.inr (Or.inr (Or.inr h)))) (by decide))
        clear hq
        go_wp2_with (go_at_call 34; refine (word_is (nm5 t g k) _ (HN5.out k) false Q.out).mono ?_; rintro e w2 ⟨rfl, rfl⟩)
        go_ret
        exact num_same HR.out HE.out HB1.out
      | true =>
        have Q := Lib.hid hq
        clear hq
        go_wp2_with (go_at_call 34; refine (word_is (nm5 t g k) _ (HN5.out k) true Q.out).mono ?_; rintro e w2 ⟨rfl, rfl⟩)
        go_roundw
        case rel => exact ⟨k + 1, by go_num, by omega, (by first | rfl | trivial), fun j hj => if e : j = k then by rw [e]; exact Q.out else HALL.out j (by omega)⟩
        case measure => simp [intOf]; omega
    · have e5 : k = 5 := by omega
      subst e5
      have HW := Lib.hid (show ¬ (wrd t = false ∨ wrd g.user = false ∨ wrd g.client = false ∨ wrd g.tenant = false ∨ wrd g.session = false) from fun hq => by
        have a0 := HALL.out 0 (by omega)
        have a1 := HALL.out 1 (by omega)
        have a2 := HALL.out 2 (by omega)
        have a3 := HALL.out 3 (by omega)
        have a4 := HALL.out 4 (by omega)
        simp only [nm5] at a0 a1 a2 a3 a4
        rw [a0, a1, a2, a3, a4] at hq
        simp at hq)
      have HWT := Lib.hid (show wrd t = true from HALL.out 0 (by omega))
      clear HALL
      have c1 := H1.out.c1
      cases hi : cdI st.l t with
      | some i =>
        obtain ⟨x, hx, hxt⟩ := cdI_some hi
        obtain ⟨b, hb⟩ := pl_at H.out.hl hx
        have hr := look_at H1.out hb hxt
        have HR := Lib.hid (iss_bad (st := st) (t := t) (g := g) (now := now) (k := 7) (by unfold issE; rw [if_neg HW.out, if_pos (by rw [hi]; simp)]) (by decide))
        clear hi hx hxt hb
        go_wp2
        go_ret
        exact num_same HR.out HE.out HB1.out
      | none =>
        have hr := look_no H1.out t ht hi
        have HI := Lib.hid hi
        have HC := Lib.hid (show issE st t g = if ckG g ≠ 0 then ckG g else if 256 ≤ st.l.length then 3 else 0 by unfold issE; rw [if_neg HW.out, if_neg (by rw [hi]; simp)])
        clear hi
        have x0 := cell_block HX1.out 0
        have x1 := cell_block HX1.out 1
        have x2 := cell_block HX1.out 2
        have x3 := cell_block HX1.out 3
        have x4 := cell_block HX1.out 4
        have x5 := cell_block HX1.out 5
        have x6 := cell_block HX1.out 6
        have x7 := cell_block HX1.out 7
        have x8 := cell_block HX1.out 8
        have x9 := cell_block HX1.out 9
        have x10 := cell_block HX1.out 10
        simp only [List.getElem?_toArray, List.getElem?_cons_zero, List.getElem?_cons_succ] at x0 x1 x2 x3 x4 x5 x6 x7 x8 x9 x10
        go_wp2_with fail
        refine (ckg_any g A g.scopes.length c w1 HSZ.out.2.2.2.2.1 HSZ.out.2.2.2.2.2.1 HSZ.out.2.2.2.2.2.2 (HS.out.below HB1.out) HSH.out hn (HM.out.below HB1.out)).mono ?_
        rintro e w2 ⟨rfl, hb2⟩
        have HB2 := Lib.hid (HB1.out.trans (hb2.mono HB1.out.size))
        have H2 := Lib.hid (H1.out.below hb2)
        have HX2 := Lib.hid ((hb2.block _ (blk_lt HX1.out)).trans HX1.out)
        clear hb2 hr c1 x0 x1 x2 x3 x4 x5 x6 x7 x8 x9 x10
        by_cases q2 : ckG g = 0
        · have HC2 := Lib.hid (show issE st t g = if 256 ≤ st.l.length then 3 else 0 by rw [HC.out, if_neg (by rw [q2]; decide)])
          have Q2 := Lib.hid q2
          rw [q2]
          clear q2
          have hr := len_run H2.out
          have c1 := H2.out.c1
          by_cases q3 : 256 ≤ st.l.length
          · have HR := Lib.hid (iss_bad (st := st) (t := t) (g := g) (now := now) (k := 3) (by rw [HC2.out, if_pos q3]) (by decide))
            have q3' : (256 : Int) ≤ (st.l.length : Int) := by omega
            go_wp2
            go_ret
            exact num_same HR.out HE.out HB2.out
          · have HR := Lib.hid (show iss st t g now = ({ st with l := st.l ++ [newC st t g now] }, 0) by unfold iss; rw [if_pos (by rw [HC2.out, if_neg q3])])
            have Q3 := Lib.hid q3
            have q3' : ¬ (256 : Int) ≤ (st.l.length : Int) := by omega
            clear q3
            have x8 := cell_block HX2.out 8
            simp only [List.getElem?_toArray, List.getElem?_cons_zero, List.getElem?_cons_succ] at x8
            go_wp2_with fail
            refine (clone_any A g.scopes.length c g.scopes w2 (HS.out.below HB2.out) (by omega)).mono ?_
            rintro e w3 ⟨B, d, rfl, hown, hb3⟩
            have HOWN := Lib.hid hown
            have HB3 := Lib.hid hb3
            have HX3 := Lib.hid ((hb3.block _ (blk_lt HX2.out)).trans HX2.out)
            have f8 : w3.frozen? ⟨w.heap.size, 8, none⟩ = false := by have := HX3.out; simp only [World.frozen?, this]; rfl
            clear hown hb3 hr c1 x8 q3'
            have x8 := cell_block HX3.out 8
            simp only [List.getElem?_toArray, List.getElem?_cons_zero, List.getElem?_cons_succ] at x8
            go_upto_region 17 with fail
            obtain ⟨w4, hw4⟩ : ∃ w4, w4 = w3.setCell ⟨w.heap.size, 8, none⟩ (.slice B g.scopes.length d) := ⟨_, rfl⟩
            rw [← hw4]
            have HX4 := Lib.hid (show w4.heap[w.heap.size]? = some (.cells #[.string g.user, .string g.client, .string g.tenant, .string g.session, .string g.redirect, .string g.nonce, .string g.challenge, .int .i64 g.method, (.slice B g.scopes.length d), .int .i64 g.auth, .int .i64 g.level] 36 (0, 0)) by rw [hw4]; exact heap_setCell_same _ _ 8 _ _ _ HX3.out)
            have HB4 := Lib.hid (show Below w.heap.size w w4 by rw [hw4]; exact (HB2.out.trans (HB3.out.mono HB2.out.size)).setCell (by simp) _)
            have HO4 := Lib.hid (show Own1 w4 w2.heap.size (.slice B g.scopes.length d) g.scopes by rw [hw4]; exact ownsRow_setCell_below HOWN.out (by simp only; exact blk_lt HX2.out) _)
            have H4 := Lib.hid (H.out.below HB4.out)
            clear hw4 x8 f8
            obtain ⟨w5, hr5, hre5, hm5, hFM, hk5⟩ := rep_iss (w3 := (w4.alloc (.cells #[.string g.user, .string g.client, .string g.tenant, .string g.session, .string g.redirect, .string g.nonce, .string g.challenge, .int .i64 g.method, (.slice B g.scopes.length d), .int .i64 g.auth, .int .i64 g.level, .int .i64 (addC now st.life), .bool false, .bool false, .bool false] 66)).drew) (cd := newC st t g now) H4.out HB4.out HE.out.lt (inv_iss HE.out.inv HWT.out Q2.out HSH.out HI.out Q3.out) HI.out HO4.out HB2.out.size (by go_grown) (heap_alloc_new w4 _)
            have hr5' : (Instr.mapUpdate 55 (.map (some M)) (.string t) (.pointer (some ⟨w4.heap.size, 0, none⟩))).run Tryz.prog (w4.alloc (.cells #[.string g.user, .string g.client, .string g.tenant, .string g.session, .string g.redirect, .string g.nonce, .string g.challenge, .int .i64 g.method, (.slice B g.scopes.length d), .int .i64 g.auth, .int .i64 g.level, .int .i64 (addC now st.life), .bool false, .bool false, .bool false] 66)).drew = .ok () w5 := hr5
            have HRE5 := Lib.hid hre5
            have HM5 := Lib.hid hm5
            have HFM := Lib.hid hFM
            have HMB := Lib.hid (show w.heap.size ≠ M from fun e => by have := HE.out.lt M H.out.s1.1; omega)
            have HK5 := Lib.hid hk5
            clear hr5 hre5 hm5 hFM hk5
            have c0 := H4.out.c0
            have c1 := H4.out.c1
            have x0 := cell_block HX4.out 0
            have x1 := cell_block HX4.out 1
            have x2 := cell_block HX4.out 2
            have x3 := cell_block HX4.out 3
            have x4 := cell_block HX4.out 4
            have x5 := cell_block HX4.out 5
            have x6 := cell_block HX4.out 6
            have x7 := cell_block HX4.out 7
            have x8 := cell_block HX4.out 8
            have x9 := cell_block HX4.out 9
            have x10 := cell_block HX4.out 10
            simp only [List.getElem?_toArray, List.getElem?_cons_zero, List.getElem?_cons_succ] at x0 x1 x2 x3 x4 x5 x6 x7 x8 x9 x10
            refine wp_region_held_drew (S := (fun w' => w'.cell? ⟨F, 0, none⟩ = some (.int .i64 st.life) ∧ w'.cell? ⟨F, 1, none⟩ = some (.map (some M)) ∧ w'.cell? ⟨w.heap.size, 0, none⟩ = some (.string g.user) ∧ w'.cell? ⟨w.heap.size, 1, none⟩ = some (.string g.client) ∧ w'.cell? ⟨w.heap.size, 2, none⟩ = some (.string g.tenant) ∧ w'.cell? ⟨w.heap.size, 3, none⟩ = some (.string g.session) ∧ w'.cell? ⟨w.heap.size, 4, none⟩ = some (.string g.redirect) ∧ w'.cell? ⟨w.heap.size, 5, none⟩ = some (.string g.nonce) ∧ w'.cell? ⟨w.heap.size, 6, none⟩ = some (.string g.challenge) ∧ w'.cell? ⟨w.heap.size, 7, none⟩ = some (.int .i64 g.method) ∧ w'.cell? ⟨w.heap.size, 8, none⟩ = some ((.slice B g.scopes.length d)) ∧ w'.cell? ⟨w.heap.size, 9, none⟩ = some (.int .i64 g.auth) ∧ w'.cell? ⟨w.heap.size, 10, none⟩ = some (.int .i64 g.level))) (by kernel_rfl) ?_ (fun hHeld => ?_)
            focus ((try dsimp only); (first | exact ⟨c0, c1, x0, x1, x2, x3, x4, x5, x6, x7, x8, x9, x10⟩ | exact ⟨(World.cell?_of_block (HK5.out _ (World.block_lt_of_cell? w4 _ c0) HFM.out)).trans c0, (World.cell?_of_block (HK5.out _ (World.block_lt_of_cell? w4 _ c1) HFM.out)).trans c1, (World.cell?_of_block (HK5.out _ (World.block_lt_of_cell? w4 _ x0) HMB.out)).trans x0, (World.cell?_of_block (HK5.out _ (World.block_lt_of_cell? w4 _ x1) HMB.out)).trans x1, (World.cell?_of_block (HK5.out _ (World.block_lt_of_cell? w4 _ x2) HMB.out)).trans x2, (World.cell?_of_block (HK5.out _ (World.block_lt_of_cell? w4 _ x3) HMB.out)).trans x3, (World.cell?_of_block (HK5.out _ (World.block_lt_of_cell? w4 _ x4) HMB.out)).trans x4, (World.cell?_of_block (HK5.out _ (World.block_lt_of_cell? w4 _ x5) HMB.out)).trans x5, (World.cell?_of_block (HK5.out _ (World.block_lt_of_cell? w4 _ x6) HMB.out)).trans x6, (World.cell?_of_block (HK5.out _ (World.block_lt_of_cell? w4 _ x7) HMB.out)).trans x7, (World.cell?_of_block (HK5.out _ (World.block_lt_of_cell? w4 _ x8) HMB.out)).trans x8, (World.cell?_of_block (HK5.out _ (World.block_lt_of_cell? w4 _ x9) HMB.out)).trans x9, (World.cell?_of_block (HK5.out _ (World.block_lt_of_cell? w4 _ x10) HMB.out)).trans x10⟩ | exact ⟨cell_below (by go_grown) c0, cell_below (by go_grown) c1, cell_below (by go_grown) x0, cell_below (by go_grown) x1, cell_below (by go_grown) x2, cell_below (by go_grown) x3, cell_below (by go_grown) x4, cell_below (by go_grown) x5, cell_below (by go_grown) x6, cell_below (by go_grown) x7, cell_below (by go_grown) x8, cell_below (by go_grown) x9, cell_below (by go_grown) x10⟩); done)
            refine wpAnyH_take (i := 0) (oi := ⟨_, _, _, _, _, _⟩) (v := ?_) rfl (by kernel_rfl) (by kernel_rfl) (by kernel_rfl) (fun _ _ _ h => h) (Or.inl ⟨by rfl, ?_⟩) (by assumption) ?_; rotate_left; (focus (intro w hSw; (try dsimp only at hSw); go_simp; (try with_reducible rfl); done)); simp only [Act.put, List.setIfInBounds_toArray, List.set_cons_zero, List.set_cons_succ]
            refine wpAnyH_take (i := 1) (oi := ⟨_, _, _, _, _, _⟩) (v := ?_) rfl (by kernel_rfl) (by kernel_rfl) (by kernel_rfl) (fun _ _ _ h => h) (Or.inl ⟨by rfl, ?_⟩) (by assumption) ?_; rotate_left; (focus (intro w hSw; (try dsimp only at hSw); go_simp; (try with_reducible rfl); done)); simp only [Act.put, List.setIfInBounds_toArray, List.set_cons_zero, List.set_cons_succ]
            refine wpAnyH_take (i := 2) (oi := ⟨_, _, _, _, _, _⟩) (v := ?_) rfl (by kernel_rfl) (by kernel_rfl) (by kernel_rfl) (fun _ _ _ h => h) (Or.inl ⟨by rfl, ?_⟩) (by assumption) ?_; rotate_left; (focus (intro w hSw; (try dsimp only at hSw); go_simp; (try with_reducible rfl); done)); simp only [Act.put, List.setIfInBounds_toArray, List.set_cons_zero, List.set_cons_succ]
            refine wpAnyH_take (i := 3) (oi := ⟨_, _, _, _, _, _⟩) (v := ?_) rfl (by kernel_rfl) (by kernel_rfl) (by kernel_rfl) (fun _ _ _ h => h) (Or.inl ⟨by rfl, ?_⟩) (by assumption) ?_; rotate_left; (focus (intro w hSw; (try dsimp only at hSw); go_simp; (try with_reducible rfl); done)); simp only [Act.put, List.setIfInBounds_toArray, List.set_cons_zero, List.set_cons_succ]
            refine wpAnyH_take (i := 4) (oi := ⟨_, _, _, _, _, _⟩) (v := ?_) rfl (by kernel_rfl) (by kernel_rfl) (by kernel_rfl) (fun _ _ _ h => h) (Or.inl ⟨by rfl, ?_⟩) (by assumption) ?_; rotate_left; (focus (intro w hSw; (try dsimp only at hSw); go_simp; (try with_reducible rfl); done)); simp only [Act.put, List.setIfInBounds_toArray, List.set_cons_zero, List.set_cons_succ]
            refine wpAnyH_take (i := 5) (oi := ⟨_, _, _, _, _, _⟩) (v := ?_) rfl (by kernel_rfl) (by kernel_rfl) (by kernel_rfl) (fun _ _ _ h => h) (Or.inl ⟨by rfl, ?_⟩) (by assumption) ?_; rotate_left; (focus (intro w hSw; (try dsimp only at hSw); go_simp; (try with_reducible rfl); done)); simp only [Act.put, List.setIfInBounds_toArray, List.set_cons_zero, List.set_cons_succ]
            refine wpAnyH_take (i := 6) (oi := ⟨_, _, _, _, _, _⟩) (v := ?_) rfl (by kernel_rfl) (by kernel_rfl) (by kernel_rfl) (fun _ _ _ h => h) (Or.inl ⟨by rfl, ?_⟩) (by assumption) ?_; rotate_left; (focus (intro w hSw; (try dsimp only at hSw); go_simp; (try with_reducible rfl); done)); simp only [Act.put, List.setIfInBounds_toArray, List.set_cons_zero, List.set_cons_succ]
            refine wpAnyH_take (i := 8) (oi := ⟨_, _, _, _, _, _⟩) (v := ?_) rfl (by kernel_rfl) (by kernel_rfl) (by kernel_rfl) (fun _ _ _ h => h) (Or.inl ⟨by rfl, ?_⟩) (by assumption) ?_; rotate_left; (focus (intro w hSw; (try dsimp only at hSw); go_simp; (try with_reducible rfl); done)); simp only [Act.put, List.setIfInBounds_toArray, List.set_cons_zero, List.set_cons_succ]
            refine wpAnyH_take (i := 9) (oi := ⟨_, _, _, _, _, _⟩) (v := ?_) rfl (by kernel_rfl) (by kernel_rfl) (by kernel_rfl) (fun _ _ _ h => h) (Or.inl ⟨by rfl, ?_⟩) (by assumption) ?_; rotate_left; (focus (intro w hSw; (try dsimp only at hSw); go_simp; (try with_reducible rfl); done)); simp only [Act.put, List.setIfInBounds_toArray, List.set_cons_zero, List.set_cons_succ]
            refine wpAnyH_take (i := 10) (oi := ⟨_, _, _, _, _, _⟩) (v := ?_) rfl (by kernel_rfl) (by kernel_rfl) (by kernel_rfl) (fun _ _ _ h => h) (Or.inl ⟨by rfl, ?_⟩) (by assumption) ?_; rotate_left; (focus (intro w hSw; (try dsimp only at hSw); go_simp; (try with_reducible rfl); done)); simp only [Act.put, List.setIfInBounds_toArray, List.set_cons_zero, List.set_cons_succ]
            refine wpAnyH_take (i := 11) (oi := ⟨_, _, _, _, _, _⟩) (v := ?_) rfl (by kernel_rfl) (by kernel_rfl) (by kernel_rfl) (fun _ _ _ h => h) (Or.inl ⟨by rfl, ?_⟩) (by assumption) ?_; rotate_left; (focus (intro w hSw; (try dsimp only at hSw); go_simp; (try with_reducible rfl); done)); simp only [Act.put, List.setIfInBounds_toArray, List.set_cons_zero, List.set_cons_succ]
            refine wpAnyH_ready (rs := [7]) (by kernel_rfl) (by simp) ?_
            refine AllReadyH.cons (o := ⟨_, _, _, _, _, _⟩) rfl (fun K hK => ?_) AllReadyH.nil
            go_simp
            go_wp2_with fail; refine (lim_any now _).mono ?_; rintro e wn ⟨rfl, rfl⟩
            (try go_wp2_with fail)
            refine hK.out _ _ ?_ (fun hHeld => ?_)
            focus ((try dsimp only); (first | exact ⟨c0, c1, x0, x1, x2, x3, x4, x5, x6, x7, x8, x9, x10⟩ | exact ⟨(World.cell?_of_block (HK5.out _ (World.block_lt_of_cell? w4 _ c0) HFM.out)).trans c0, (World.cell?_of_block (HK5.out _ (World.block_lt_of_cell? w4 _ c1) HFM.out)).trans c1, (World.cell?_of_block (HK5.out _ (World.block_lt_of_cell? w4 _ x0) HMB.out)).trans x0, (World.cell?_of_block (HK5.out _ (World.block_lt_of_cell? w4 _ x1) HMB.out)).trans x1, (World.cell?_of_block (HK5.out _ (World.block_lt_of_cell? w4 _ x2) HMB.out)).trans x2, (World.cell?_of_block (HK5.out _ (World.block_lt_of_cell? w4 _ x3) HMB.out)).trans x3, (World.cell?_of_block (HK5.out _ (World.block_lt_of_cell? w4 _ x4) HMB.out)).trans x4, (World.cell?_of_block (HK5.out _ (World.block_lt_of_cell? w4 _ x5) HMB.out)).trans x5, (World.cell?_of_block (HK5.out _ (World.block_lt_of_cell? w4 _ x6) HMB.out)).trans x6, (World.cell?_of_block (HK5.out _ (World.block_lt_of_cell? w4 _ x7) HMB.out)).trans x7, (World.cell?_of_block (HK5.out _ (World.block_lt_of_cell? w4 _ x8) HMB.out)).trans x8, (World.cell?_of_block (HK5.out _ (World.block_lt_of_cell? w4 _ x9) HMB.out)).trans x9, (World.cell?_of_block (HK5.out _ (World.block_lt_of_cell? w4 _ x10) HMB.out)).trans x10⟩ | exact ⟨cell_below (by go_grown) c0, cell_below (by go_grown) c1, cell_below (by go_grown) x0, cell_below (by go_grown) x1, cell_below (by go_grown) x2, cell_below (by go_grown) x3, cell_below (by go_grown) x4, cell_below (by go_grown) x5, cell_below (by go_grown) x6, cell_below (by go_grown) x7, cell_below (by go_grown) x8, cell_below (by go_grown) x9, cell_below (by go_grown) x10⟩); done)
            clear hK K
            (try simp only [Act.put, List.setIfInBounds_toArray, List.set_cons_zero, List.set_cons_succ])
            refine wpAnyH_ready (rs := [12]) (by kernel_rfl) (by simp) ?_
            refine AllReadyH.cons (o := ⟨_, _, _, _, _, _⟩) rfl (fun K hK => ?_) AllReadyH.nil
            go_simp
            go_wp2_with fail; refine (add_any (limI now) st.life _).mono ?_; rintro e wn ⟨rfl, rfl⟩; rw [addC_l]
            (try go_wp2_with fail)
            refine hK.out _ _ ?_ (fun hHeld => ?_)
            focus ((try dsimp only); (first | exact ⟨c0, c1, x0, x1, x2, x3, x4, x5, x6, x7, x8, x9, x10⟩ | exact ⟨(World.cell?_of_block (HK5.out _ (World.block_lt_of_cell? w4 _ c0) HFM.out)).trans c0, (World.cell?_of_block (HK5.out _ (World.block_lt_of_cell? w4 _ c1) HFM.out)).trans c1, (World.cell?_of_block (HK5.out _ (World.block_lt_of_cell? w4 _ x0) HMB.out)).trans x0, (World.cell?_of_block (HK5.out _ (World.block_lt_of_cell? w4 _ x1) HMB.out)).trans x1, (World.cell?_of_block (HK5.out _ (World.block_lt_of_cell? w4 _ x2) HMB.out)).trans x2, (World.cell?_of_block (HK5.out _ (World.block_lt_of_cell? w4 _ x3) HMB.out)).trans x3, (World.cell?_of_block (HK5.out _ (World.block_lt_of_cell? w4 _ x4) HMB.out)).trans x4, (World.cell?_of_block (HK5.out _ (World.block_lt_of_cell? w4 _ x5) HMB.out)).trans x5, (World.cell?_of_block (HK5.out _ (World.block_lt_of_cell? w4 _ x6) HMB.out)).trans x6, (World.cell?_of_block (HK5.out _ (World.block_lt_of_cell? w4 _ x7) HMB.out)).trans x7, (World.cell?_of_block (HK5.out _ (World.block_lt_of_cell? w4 _ x8) HMB.out)).trans x8, (World.cell?_of_block (HK5.out _ (World.block_lt_of_cell? w4 _ x9) HMB.out)).trans x9, (World.cell?_of_block (HK5.out _ (World.block_lt_of_cell? w4 _ x10) HMB.out)).trans x10⟩ | exact ⟨cell_below (by go_grown) c0, cell_below (by go_grown) c1, cell_below (by go_grown) x0, cell_below (by go_grown) x1, cell_below (by go_grown) x2, cell_below (by go_grown) x3, cell_below (by go_grown) x4, cell_below (by go_grown) x5, cell_below (by go_grown) x6, cell_below (by go_grown) x7, cell_below (by go_grown) x8, cell_below (by go_grown) x9, cell_below (by go_grown) x10⟩); done)
            clear hK K
            (try simp only [Act.put, List.setIfInBounds_toArray, List.set_cons_zero, List.set_cons_succ])
            refine wpAnyH_take (i := 13) (oi := ⟨_, _, _, _, _, _⟩) (v := ?_) rfl (by kernel_rfl) (by kernel_rfl) (by kernel_rfl) (fun _ _ _ h => h) (Or.inl ⟨by rfl, ?_⟩) (by assumption) ?_; rotate_left; (focus (intro w hSw; (try dsimp only at hSw); go_simp; (try with_reducible rfl); done)); simp only [Act.put, List.setIfInBounds_toArray, List.set_cons_zero, List.set_cons_succ]
            refine wpAnyH_ready (rs := [14]) (by kernel_rfl) (by simp) ?_
            refine AllReadyH.cons (o := ⟨_, _, _, _, _, _⟩) rfl (fun K hK => ?_) AllReadyH.nil
            go_simp
            (try go_wp2_with fail)
            refine hK.out _ _ ?_ (fun hHeld => ?_)
            focus ((try dsimp only); (first | exact ⟨c0, c1, x0, x1, x2, x3, x4, x5, x6, x7, x8, x9, x10⟩ | exact ⟨(World.cell?_of_block (HK5.out _ (World.block_lt_of_cell? w4 _ c0) HFM.out)).trans c0, (World.cell?_of_block (HK5.out _ (World.block_lt_of_cell? w4 _ c1) HFM.out)).trans c1, (World.cell?_of_block (HK5.out _ (World.block_lt_of_cell? w4 _ x0) HMB.out)).trans x0, (World.cell?_of_block (HK5.out _ (World.block_lt_of_cell? w4 _ x1) HMB.out)).trans x1, (World.cell?_of_block (HK5.out _ (World.block_lt_of_cell? w4 _ x2) HMB.out)).trans x2, (World.cell?_of_block (HK5.out _ (World.block_lt_of_cell? w4 _ x3) HMB.out)).trans x3, (World.cell?_of_block (HK5.out _ (World.block_lt_of_cell? w4 _ x4) HMB.out)).trans x4, (World.cell?_of_block (HK5.out _ (World.block_lt_of_cell? w4 _ x5) HMB.out)).trans x5, (World.cell?_of_block (HK5.out _ (World.block_lt_of_cell? w4 _ x6) HMB.out)).trans x6, (World.cell?_of_block (HK5.out _ (World.block_lt_of_cell? w4 _ x7) HMB.out)).trans x7, (World.cell?_of_block (HK5.out _ (World.block_lt_of_cell? w4 _ x8) HMB.out)).trans x8, (World.cell?_of_block (HK5.out _ (World.block_lt_of_cell? w4 _ x9) HMB.out)).trans x9, (World.cell?_of_block (HK5.out _ (World.block_lt_of_cell? w4 _ x10) HMB.out)).trans x10⟩ | exact ⟨cell_below (by go_grown) c0, cell_below (by go_grown) c1, cell_below (by go_grown) x0, cell_below (by go_grown) x1, cell_below (by go_grown) x2, cell_below (by go_grown) x3, cell_below (by go_grown) x4, cell_below (by go_grown) x5, cell_below (by go_grown) x6, cell_below (by go_grown) x7, cell_below (by go_grown) x8, cell_below (by go_grown) x9, cell_below (by go_grown) x10⟩); done)
            clear hK K
            (try simp only [Act.put, List.setIfInBounds_toArray, List.set_cons_zero, List.set_cons_succ])
            refine wpAnyH_ready (rs := [15]) (by kernel_rfl) (by simp) ?_
            refine AllReadyH.cons (o := ⟨_, _, _, _, _, _⟩) rfl (fun K hK => ?_) AllReadyH.nil
            go_simp
            (try go_wp2_with fail)
            refine hK.out _ _ ?_ (fun hHeld => ?_)
            focus ((try dsimp only); (first | exact ⟨c0, c1, x0, x1, x2, x3, x4, x5, x6, x7, x8, x9, x10⟩ | exact ⟨(World.cell?_of_block (HK5.out _ (World.block_lt_of_cell? w4 _ c0) HFM.out)).trans c0, (World.cell?_of_block (HK5.out _ (World.block_lt_of_cell? w4 _ c1) HFM.out)).trans c1, (World.cell?_of_block (HK5.out _ (World.block_lt_of_cell? w4 _ x0) HMB.out)).trans x0, (World.cell?_of_block (HK5.out _ (World.block_lt_of_cell? w4 _ x1) HMB.out)).trans x1, (World.cell?_of_block (HK5.out _ (World.block_lt_of_cell? w4 _ x2) HMB.out)).trans x2, (World.cell?_of_block (HK5.out _ (World.block_lt_of_cell? w4 _ x3) HMB.out)).trans x3, (World.cell?_of_block (HK5.out _ (World.block_lt_of_cell? w4 _ x4) HMB.out)).trans x4, (World.cell?_of_block (HK5.out _ (World.block_lt_of_cell? w4 _ x5) HMB.out)).trans x5, (World.cell?_of_block (HK5.out _ (World.block_lt_of_cell? w4 _ x6) HMB.out)).trans x6, (World.cell?_of_block (HK5.out _ (World.block_lt_of_cell? w4 _ x7) HMB.out)).trans x7, (World.cell?_of_block (HK5.out _ (World.block_lt_of_cell? w4 _ x8) HMB.out)).trans x8, (World.cell?_of_block (HK5.out _ (World.block_lt_of_cell? w4 _ x9) HMB.out)).trans x9, (World.cell?_of_block (HK5.out _ (World.block_lt_of_cell? w4 _ x10) HMB.out)).trans x10⟩ | exact ⟨cell_below (by go_grown) c0, cell_below (by go_grown) c1, cell_below (by go_grown) x0, cell_below (by go_grown) x1, cell_below (by go_grown) x2, cell_below (by go_grown) x3, cell_below (by go_grown) x4, cell_below (by go_grown) x5, cell_below (by go_grown) x6, cell_below (by go_grown) x7, cell_below (by go_grown) x8, cell_below (by go_grown) x9, cell_below (by go_grown) x10⟩); done)
            clear hK K
            (try simp only [Act.put, List.setIfInBounds_toArray, List.set_cons_zero, List.set_cons_succ])
            refine wpAnyH_done (by kernel_rfl) ?_ _
            go_wp2
            go_ret
            rw [HR.out]
            exact ⟨rfl, HRE5.out, HM5.out⟩
        · have HR := Lib.hid (iss_bad (st := st) (t := t) (g := g) (now := now) (k := ckG g) (by rw [HC.out, if_pos q2]) q2)
          have hq2 : (ckG g == 0) = false := beq_eq_false_iff_ne.2 q2
          have Q2 := Lib.hid q2
          go_wp2
          go_ret
          exact num_same HR.out HE.out HB2.out
end Go.Proofs.YtioabjniipkncaaGreatDoor.Rc
