/-
  The program's Start.
-/
import Derived.Test.YtfeljihbaekfmaaRfS0
namespace Go.Proofs.Ytfeljihbaekfmaa.Rf
open Go.RowKit Go.Proofs.Ytfeljihbaekfmaa.Fo Go.Maps

theorem word_is (s : Bs) (w : World) (hs : s.size ≤ 100000) (b : Bool) (h : wrd s = b) : Calls Try.prog 46 #[.string s] w fun e w' => e = .returned (.bool b) ∧ w = w' := by rw [← h]; exact word_any s w hs
/-- The five words of a start. -/
def fiveW (i t : Bs) (g : Gr) : Bool := wrd i && wrd t && wrd g.user && wrd g.client && wrd g.session
theorem startE_5 {st : St} {i t : Bs} {g : Gr} (h : fiveW i t g = false) : startE st i t g = 5 := by
  unfold startE
  rw [if_pos]
  unfold fiveW at h
  simp only [Bool.and_eq_false_iff] at h
  rcases h with (((h | h) | h) | h) | h <;> simp [h]
theorem startE_go {st : St} {i t : Bs} {g : Gr} (h : fiveW i t g = true) : startE st i t g = if chkS g.scopes ≠ 0 then chkS g.scopes else if tokI st.l t ≠ none ∨ idI st.l i ≠ none then 7 else if 256 ≤ st.l.length then 3 else 0 := by
  unfold fiveW at h
  simp only [Bool.and_eq_true] at h
  unfold startE
  rw [if_neg (by simp [h.1.1.1.1, h.1.1.1.2, h.1.1.2, h.1.2, h.2])]
theorem start_err {st : St} {i t : Bs} {g : Gr} {now : Int} (h : startE st i t g ≠ 0) : start st i t g now = (st, startE st i t g) := by unfold start; rw [if_neg h]
theorem start_ok {st : St} {i t : Bs} {g : Gr} {now : Int} (h : startE st i t g = 0) : start st i t g now = ({ st with l := st.l ++ [newF st i t g now] }, 0) := by unfold start; rw [if_pos h]
/-- A start that fails. -/
theorem num_same {w w' : World} {S : Nat → Prop} {F : Nat} {st : St} {x : Int} {r : St × Int} (hr : r = (st, x)) (h : RepE w S F st) (hb : Below w.heap.size w w') : NumIs w S F r.2 r.1 (.returned (.int .i64 x)) w' := by
  subst hr
  refine ⟨rfl, h.keep (fun _ e => Or.inl e) (fun k e => hb.block k (h.lt k e)) hb.size (fun k e => ?_), Mods.of_below _ hb⟩
  rcases e with e | e
  · exact Nat.lt_of_lt_of_le (h.lt k e) hb.size
  · exact e.2
set_option maxRecDepth 100000 in
set_option maxHeartbeats 8000000 in
theorem start_any {w : World} {S : Nat → Prop} {F : Nat} {st : St} (h : RepE w S F st) (i t : Bs) (g : Gr) (A : Option Addr) (n c : Nat) (now : Int) (hi : i.size ≤ 100000) (ht : t.size ≤ 100000) (hu : g.user.size ≤ 100000) (hcl : g.client.size ≤ 100000) (hse : g.session.size ≤ 100000)
    (hs : Ss w A n c g.scopes) (hsh : Short g.scopes) (hn : n ≤ 1000) (hm : MX w) :
    Calls Try.prog 22 #[.pointer (some ⟨F, 0, none⟩), .string i, .string t, .agg #[.string g.user, .string g.client, .string g.tenant, .string g.session, .string g.redirect, .string g.nonce, .string g.challenge, .int .i64 g.method, (.slice A n c), .int .i64 g.auth, .int .i64 g.level], .int .i64 now] w (NumIs w S F (start st i t g now).2 (start st i t g now).1) := by
  have HRE := Lib.hid h
  obtain ⟨I, M1, M2, pl, h⟩ := h
  have HW := Lib.hid h
  obtain ⟨w0, hw0⟩ : ∃ w0, w0 = w.alloc (.cells #[.string g.user, .string g.client, .string g.tenant, .string g.session, .string g.redirect, .string g.nonce, .string g.challenge, .int .i64 g.method, (.slice A n c), .int .i64 g.auth, .int .i64 g.level] 35) := ⟨_, rfl⟩
  have hb0 : Below w.heap.size w w0 := by rw [hw0]; exact (Below.refl _ _).alloc (Nat.le_refl _) _
  have hblk : w0.heap[w.heap.size]? = some (.cells #[.string g.user, .string g.client, .string g.tenant, .string g.session, .string g.redirect, .string g.nonce, .string g.challenge, .int .i64 g.method, (.slice A n c), .int .i64 g.auth, .int .i64 g.level] 35 (0, 0)) := by rw [hw0]; exact heap_alloc_new _ _
  have HW0 := Lib.hid hw0
  have HB0 := Lib.hid hb0
  have HBLK := Lib.hid hblk
  have hz0 : w0.heap.size = w.heap.size + 1 := by rw [hw0]; simp
  have HZ0 := Lib.hid hz0
  have H := Lib.hid (h.below hb0)
  have HS := Lib.hid (hs.below hb0)
  have HSH := Lib.hid hsh
  have HM := Lib.hid (hm.below hb0)
  have HLT := Lib.hid h.lt
  have HINV := Lib.hid h.inv
  have HL := Lib.hid h.hl
  clear h hs hsh hm hw0 hb0 hblk hz0
  have c0 := H.out.c0
  have c1 := H.out.c1
  have c2 := H.out.c2
  have c3 := H.out.c3
  have k0 := cell_block HBLK.out 0
  have k1 := cell_block HBLK.out 1
  have k2 := cell_block HBLK.out 2
  have k3 := cell_block HBLK.out 3
  have k4 := cell_block HBLK.out 4
  have k5 := cell_block HBLK.out 5
  have k6 := cell_block HBLK.out 6
  have k7 := cell_block HBLK.out 7
  have k8 := cell_block HBLK.out 8
  have k9 := cell_block HBLK.out 9
  have k10 := cell_block HBLK.out 10
  simp only [List.getElem?_toArray, List.getElem?_cons_zero, List.getElem?_cons_succ] at k0 k1 k2 k3 k4 k5 k6 k7 k8 k9 k10
  go_enter Try.func22, Try.ntmps22
  go_upto_region 1 with fail
  rw [← HW0.out]
  go_wp2_with fail
  refine (made_yes H.out).mono ?_
  rintro e w1 ⟨rfl, rfl⟩
  go_upto_region 3 with fail
  go_cut [43] (fun s43 wx => s43 = .bool (!fiveW i t g) ∧ w0 = wx)
  case first =>
    cases q0 : wrd i with
    | false =>
      have HF := Lib.hid (show fiveW i t g = false by unfold fiveW; simp [q0])
      have Q0 := Lib.hid q0
      clear q0
      go_wp2_with fail
      refine (word_is i w0 hi false Q0.out).mono ?_
      rintro e w1 ⟨rfl, rfl⟩
      go_wp2
      go_meet
      exact ⟨by rw [HF.out]; rfl, rfl⟩
    | true =>
      cases q1 : wrd t with
      | false =>
        have HF := Lib.hid (show fiveW i t g = false by unfold fiveW; simp [q0, q1])
        have Q0 := Lib.hid q0
        have Q1 := Lib.hid q1
        clear q0 q1
        go_wp2_with fail
        refine (word_is i w0 hi true Q0.out).mono ?_
        rintro e w1 ⟨rfl, rfl⟩
        go_wp2_with fail
        refine (word_is t w0 ht false Q1.out).mono ?_
        rintro e w1 ⟨rfl, rfl⟩
        go_wp2
        go_meet
        exact ⟨by rw [HF.out]; rfl, rfl⟩
      | true =>
        cases q2 : wrd g.user with
        | false =>
          have HF := Lib.hid (show fiveW i t g = false by unfold fiveW; simp [q0, q1, q2])
          have Q0 := Lib.hid q0
          have Q1 := Lib.hid q1
          have Q2 := Lib.hid q2
          clear q0 q1 q2
          go_wp2_with fail
          refine (word_is i w0 hi true Q0.out).mono ?_
          rintro e w1 ⟨rfl, rfl⟩
          go_wp2_with fail
          refine (word_is t w0 ht true Q1.out).mono ?_
          rintro e w1 ⟨rfl, rfl⟩
          go_wp2_with fail
          refine (word_is g.user w0 hu false Q2.out).mono ?_
          rintro e w1 ⟨rfl, rfl⟩
          go_wp2
          go_meet
          exact ⟨by rw [HF.out]; rfl, rfl⟩
        | true =>
          cases q3 : wrd g.client with
          | false =>
            have HF := Lib.hid (show fiveW i t g = false by unfold fiveW; simp [q0, q1, q2, q3])
            have Q0 := Lib.hid q0
            have Q1 := Lib.hid q1
            have Q2 := Lib.hid q2
            have Q3 := Lib.hid q3
            clear q0 q1 q2 q3
            go_wp2_with fail
            refine (word_is i w0 hi true Q0.out).mono ?_
            rintro e w1 ⟨rfl, rfl⟩
            go_wp2_with fail
            refine (word_is t w0 ht true Q1.out).mono ?_
            rintro e w1 ⟨rfl, rfl⟩
            go_wp2_with fail
            refine (word_is g.user w0 hu true Q2.out).mono ?_
            rintro e w1 ⟨rfl, rfl⟩
            go_wp2_with fail
            refine (word_is g.client w0 hcl false Q3.out).mono ?_
            rintro e w1 ⟨rfl, rfl⟩
            go_wp2
            go_meet
            exact ⟨by rw [HF.out]; rfl, rfl⟩
          | true =>
            cases q4 : wrd g.session with
            | false =>
              have HF := Lib.hid (show fiveW i t g = false by unfold fiveW; simp [q0, q1, q2, q3, q4])
              have Q0 := Lib.hid q0
              have Q1 := Lib.hid q1
              have Q2 := Lib.hid q2
              have Q3 := Lib.hid q3
              have Q4 := Lib.hid q4
              clear q0 q1 q2 q3 q4
              go_wp2_with fail
              refine (word_is i w0 hi true Q0.out).mono ?_
              rintro e w1 ⟨rfl, rfl⟩
              go_wp2_with fail
              refine (word_is t w0 ht true Q1.out).mono ?_
              rintro e w1 ⟨rfl, rfl⟩
              go_wp2_with fail
              refine (word_is g.user w0 hu true Q2.out).mono ?_
              rintro e w1 ⟨rfl, rfl⟩
              go_wp2_with fail
              refine (word_is g.client w0 hcl true Q3.out).mono ?_
              rintro e w1 ⟨rfl, rfl⟩
              go_wp2_with fail
              refine (word_is g.session w0 hse false Q4.out).mono ?_
              rintro e w1 ⟨rfl, rfl⟩
              go_wp2
              go_meet
              exact ⟨by rw [HF.out]; rfl, rfl⟩
            | true =>
              have HF := Lib.hid (show fiveW i t g = true by unfold fiveW; simp [q0, q1, q2, q3, q4])
              have Q0 := Lib.hid q0
              have Q1 := Lib.hid q1
              have Q2 := Lib.hid q2
              have Q3 := Lib.hid q3
              have Q4 := Lib.hid q4
              clear q0 q1 q2 q3 q4
              go_wp2_with fail
              refine (word_is i w0 hi true Q0.out).mono ?_
              rintro e w1 ⟨rfl, rfl⟩
              go_wp2_with fail
              refine (word_is t w0 ht true Q1.out).mono ?_
              rintro e w1 ⟨rfl, rfl⟩
              go_wp2_with fail
              refine (word_is g.user w0 hu true Q2.out).mono ?_
              rintro e w1 ⟨rfl, rfl⟩
              go_wp2_with fail
              refine (word_is g.client w0 hcl true Q3.out).mono ?_
              rintro e w1 ⟨rfl, rfl⟩
              go_wp2_with fail
              refine (word_is g.session w0 hse true Q4.out).mono ?_
              rintro e w1 ⟨rfl, rfl⟩
              go_wp2
              go_meet
              exact ⟨by rw [HF.out]; rfl, rfl⟩
  case rest =>
    obtain ⟨rfl, rfl⟩ := hcut
    cases h5 : fiveW i t g with
    | false =>
      have HR := Lib.hid (start_err (now := now) (show startE st i t g ≠ 0 by rw [startE_5 h5]; decide))
      have HR5 := Lib.hid (startE_5 (st := st) h5)
      clear h5
      go_wp2
      go_ret
      exact num_same (by rw [HR.out, HR5.out]) HRE.out HB0.out
    | true =>
      have HG := Lib.hid (startE_go (st := st) h5)
      have HFW := Lib.hid h5
      clear h5
      go_wp2_with fail
      refine (check_any A n c g.scopes w0 HS.out HSH.out (by omega) HM.out).mono ?_
      rintro e w1 ⟨rfl, rfl⟩
      by_cases hce : chkS g.scopes = 0
      · rw [hce]
        rw [hce] at HG
        have HCE := Lib.hid hce
        clear hce
        have HNO : ∀ k, start st i t g now = (st, k) → ∀ w', Below w.heap.size w w' → NumIs w S F (start st i t g now).2 (start st i t g now).1 (.returned (.int .i64 k)) w' := fun k hk w' hb => num_same hk HRE.out hb
        have HNO' := Lib.hid HNO
        clear HNO
        cases hti : tokI st.l t with
        | some k =>
          obtain ⟨x, hx, htx⟩ := tokI_some hti
          have hr := look2_yes H.out x (List.mem_of_getElem? hx) t htx true
          have HR := Lib.hid (show start st i t g now = (st, 7) by
            have e := HG.out
            rw [if_neg (by simp), if_pos (Or.inl (by rw [hti]; simp))] at e
            rw [start_err (by rw [e]; decide), e])
          clear hti hx htx HG
          go_wp2
          go_ret
          exact HNO'.out _ HR.out _ HB0.out
        | none =>
          have hr2 := look2_no H.out t ht (tokI_none.1 hti) true
          cases hii : idI st.l i with
          | some k =>
            obtain ⟨x, hx, hxi⟩ := idI_some hii
            obtain ⟨b, hb⟩ := pl_at H.out.hl hx
            have hr1 := look1_yes H.out (b, x) (List.mem_of_getElem? hb)
            simp only [hxi] at hr1
            have HR := Lib.hid (show start st i t g now = (st, 7) by
              have e := HG.out
              rw [if_neg (by simp), if_pos (Or.inr (by rw [hii]; simp))] at e
              rw [start_err (by rw [e]; decide), e])
            clear hti hii hx hxi hb HG
            go_wp2
            go_ret
            exact HNO'.out _ HR.out _ HB0.out
          | none =>
            have hr1 := look1_no H.out i hi (fun p hp => idI_none.1 hii p.2 (snd_mem H.out.hl hp))
            obtain ⟨f1, m1, v1⟩ := H.out.h1
            have hpl : pl.length = st.l.length := by rw [← H.out.hl]; simp
            have hln : ∀ ty, (Builtin.len_ #[61] ty #[.map (some M1)]).run Try.prog w0 = .ok (.int .i64 (st.l.length : Nat)) w0 := fun ty => by rw [← hpl]; exact m1.len map1 ty
            have HPL := Lib.hid hpl
            have HTI := Lib.hid hti
            have HII := Lib.hid hii
            clear hpl m1 v1
            by_cases h256 : 256 ≤ st.l.length
            · have HR := Lib.hid (show start st i t g now = (st, 3) by
                have e := HG.out
                rw [if_neg (by simp), if_neg (by rw [hti, hii]; simp), if_pos h256] at e
                rw [start_err (by rw [e]; decide), e])
              clear hti hii HG
              go_wp2
              go_ret
              exact HNO'.out _ HR.out _ HB0.out
            · have HR := Lib.hid (show start st i t g now = ({ st with l := st.l ++ [newF st i t g now] }, 0) by
                have e := HG.out
                rw [if_neg (by simp), if_neg (by rw [hti, hii]; simp), if_neg h256] at e
                rw [start_ok e])
              clear hti hii HG HNO'
              go_wp2_with fail
              refine (clone_any A n c g.scopes w0 HS.out (by omega)).mono ?_
              rintro e w1 ⟨B, d, rfl, hown, hb1⟩
              have hblk1 : w1.heap[w.heap.size]? = some (.cells #[.string g.user, .string g.client, .string g.tenant, .string g.session, .string g.redirect, .string g.nonce, .string g.challenge, .int .i64 g.method, (.slice A n c), .int .i64 g.auth, .int .i64 g.level] 35 (0, 0)) := (hb1.block _ (by have := HZ0.out; omega)).trans HBLK.out
              have hk8 : w1.cell? ⟨w.heap.size, 8, none⟩ = some (.slice A n c) := cell_block hblk1 8
              have hf8 : w1.frozen? ⟨w.heap.size, 8, none⟩ = false := by simp [World.frozen?, hblk1]
              have HB1 := Lib.hid (HB0.out.trans (hb1.mono HB0.out.size))
              have HOWN := Lib.hid hown
              have HBK1 := Lib.hid hblk1
              have HLO := Lib.hid (show w.heap.size < w0.heap.size by rw [HZ0.out]; omega)
              clear hown hb1 hblk1 hr1 hr2 hln k0 k1 k2 k3 k4 k5 k6 k7 k8 k9 k10 c0 c1 c2 c3
              obtain ⟨w2, hw2⟩ : ∃ w2, w2 = w1.setCell ⟨w.heap.size, 8, none⟩ (.slice B n d) := ⟨_, rfl⟩
              have hb2 : Below w.heap.size w w2 := by rw [hw2]; exact HB1.out.setCell (Nat.le_refl _) _
              have hblk2 : w2.heap[w.heap.size]? = some (.cells #[.string g.user, .string g.client, .string g.tenant, .string g.session, .string g.redirect, .string g.nonce, .string g.challenge, .int .i64 g.method, (.slice B n d), .int .i64 g.auth, .int .i64 g.level] 35 (0, 0)) := by rw [hw2]; exact heap_setCell_same w1 w.heap.size 8 _ _ (.slice B n d) HBK1.out
              have hown2 : Own1 w2 w0.heap.size (.slice B n d) g.scopes := by rw [hw2]; exact ownsRow_setCell_below HOWN.out HLO.out _
              have HW2 := Lib.hid hw2
              have HB2 := Lib.hid hb2
              have HBK2 := Lib.hid hblk2
              have H2 := Lib.hid (HW.out.below hb2)
              have hf5 : fiveW i t g = true := HFW.out
              have hwi : wrd i = true := by unfold fiveW at hf5; simp only [Bool.and_eq_true] at hf5; exact hf5.1.1.1.1
              have hwt : wrd t = true := by unfold fiveW at hf5; simp only [Bool.and_eq_true] at hf5; exact hf5.1.1.1.2
              obtain ⟨w4, w5, hr1, hr2, hc34, hk4, hfm, hre, hmo⟩ := rep_start (i := i) (t := t) (g := g) (now := now) H2.out hb2 HLT.out B n d w0.heap.size hown2 (Nat.le_of_lt HLO.out) hwi hwt HCE.out HSH.out HTI.out HII.out h256
              have HRE5 := Lib.hid hre
              have HWM := Lib.hid (show w.heap.size ≠ M1 from fun e => by have := HLT.out _ H2.out.s1.1; omega)
              have HK4 := Lib.hid hk4
              have HFM := Lib.hid hfm
              have HMO := Lib.hid hmo
              have HR1 := Lib.hid hr1
              have HR2 := Lib.hid hr2
              clear hw2 hb2 hblk2 hown2 hf5 hwi hwt hre hmo hr1 hr2 hk4 hfm
              go_upto_region 14 with fail
              rw [← HW2.out]
              have c0 := H2.out.c0
              have c1 := H2.out.c1
              have c2 := H2.out.c2
              have k0 := cell_block HBK2.out 0
              have k1 := cell_block HBK2.out 1
              have k2 := cell_block HBK2.out 2
              have k3 := cell_block HBK2.out 3
              have k4 := cell_block HBK2.out 4
              have k5 := cell_block HBK2.out 5
              have k6 := cell_block HBK2.out 6
              have k7 := cell_block HBK2.out 7
              have k8 := cell_block HBK2.out 8
              have k9 := cell_block HBK2.out 9
              have k10 := cell_block HBK2.out 10
              simp only [List.getElem?_toArray, List.getElem?_cons_zero, List.getElem?_cons_succ] at k0 k1 k2 k3 k4 k5 k6 k7 k8 k9 k10
              go_wp2_with fail
              refine (add_any now st.total w2).mono ?_
              rintro e wn ⟨rfl, rfl⟩
              obtain ⟨fin, hfin⟩ : ∃ x, addC now st.total = x := ⟨_, rfl⟩
              obtain ⟨lif, hlif⟩ : ∃ x, addC now st.life = x := ⟨_, rfl⟩
              rw [hfin, hlif] at HR1
              rw [hfin]
              have HLIF := Lib.hid hlif
              clear hfin hlif
              go_wp2_with fail
              refine wp_region_held_drew (S := (fun w' => w'.cell? ⟨F, 0, none⟩ = some (.int .i64 st.life) ∧ w'.cell? ⟨F, 2, none⟩ = some (.map (some M1)) ∧ w'.cell? ⟨w.heap.size, 0, none⟩ = some (.string g.user) ∧ w'.cell? ⟨w.heap.size, 1, none⟩ = some (.string g.client) ∧ w'.cell? ⟨w.heap.size, 2, none⟩ = some (.string g.tenant) ∧ w'.cell? ⟨w.heap.size, 3, none⟩ = some (.string g.session) ∧ w'.cell? ⟨w.heap.size, 4, none⟩ = some (.string g.redirect) ∧ w'.cell? ⟨w.heap.size, 5, none⟩ = some (.string g.nonce) ∧ w'.cell? ⟨w.heap.size, 6, none⟩ = some (.string g.challenge) ∧ w'.cell? ⟨w.heap.size, 7, none⟩ = some (.int .i64 g.method) ∧ w'.cell? ⟨w.heap.size, 8, none⟩ = some ((.slice B n d)) ∧ w'.cell? ⟨w.heap.size, 9, none⟩ = some (.int .i64 g.auth) ∧ w'.cell? ⟨w.heap.size, 10, none⟩ = some (.int .i64 g.level))) (by kernel_rfl) ?_ (fun hHeld => ?_)
              focus ((try dsimp only); (first | exact ⟨(World.cell?_of_block (w := w2) (HK4.out _ (World.block_lt_of_cell? w2 _ c0) HFM.out)).trans c0, (World.cell?_of_block (w := w2) (HK4.out _ (World.block_lt_of_cell? w2 _ c2) HFM.out)).trans c2, (World.cell?_of_block (w := w2) (HK4.out _ (World.block_lt_of_cell? w2 _ k0) HWM.out)).trans k0, (World.cell?_of_block (w := w2) (HK4.out _ (World.block_lt_of_cell? w2 _ k1) HWM.out)).trans k1, (World.cell?_of_block (w := w2) (HK4.out _ (World.block_lt_of_cell? w2 _ k2) HWM.out)).trans k2, (World.cell?_of_block (w := w2) (HK4.out _ (World.block_lt_of_cell? w2 _ k3) HWM.out)).trans k3, (World.cell?_of_block (w := w2) (HK4.out _ (World.block_lt_of_cell? w2 _ k4) HWM.out)).trans k4, (World.cell?_of_block (w := w2) (HK4.out _ (World.block_lt_of_cell? w2 _ k5) HWM.out)).trans k5, (World.cell?_of_block (w := w2) (HK4.out _ (World.block_lt_of_cell? w2 _ k6) HWM.out)).trans k6, (World.cell?_of_block (w := w2) (HK4.out _ (World.block_lt_of_cell? w2 _ k7) HWM.out)).trans k7, (World.cell?_of_block (w := w2) (HK4.out _ (World.block_lt_of_cell? w2 _ k8) HWM.out)).trans k8, (World.cell?_of_block (w := w2) (HK4.out _ (World.block_lt_of_cell? w2 _ k9) HWM.out)).trans k9, (World.cell?_of_block (w := w2) (HK4.out _ (World.block_lt_of_cell? w2 _ k10) HWM.out)).trans k10⟩ | exact ⟨(bkeep (show Below w2.heap.size w2 _ by go_grown) (World.block_lt_of_cell? w2 _ c0) _).trans c0, (bkeep (show Below w2.heap.size w2 _ by go_grown) (World.block_lt_of_cell? w2 _ c2) _).trans c2, (bkeep (show Below w2.heap.size w2 _ by go_grown) (World.block_lt_of_cell? w2 _ k0) _).trans k0, (bkeep (show Below w2.heap.size w2 _ by go_grown) (World.block_lt_of_cell? w2 _ k1) _).trans k1, (bkeep (show Below w2.heap.size w2 _ by go_grown) (World.block_lt_of_cell? w2 _ k2) _).trans k2, (bkeep (show Below w2.heap.size w2 _ by go_grown) (World.block_lt_of_cell? w2 _ k3) _).trans k3, (bkeep (show Below w2.heap.size w2 _ by go_grown) (World.block_lt_of_cell? w2 _ k4) _).trans k4, (bkeep (show Below w2.heap.size w2 _ by go_grown) (World.block_lt_of_cell? w2 _ k5) _).trans k5, (bkeep (show Below w2.heap.size w2 _ by go_grown) (World.block_lt_of_cell? w2 _ k6) _).trans k6, (bkeep (show Below w2.heap.size w2 _ by go_grown) (World.block_lt_of_cell? w2 _ k7) _).trans k7, (bkeep (show Below w2.heap.size w2 _ by go_grown) (World.block_lt_of_cell? w2 _ k8) _).trans k8, (bkeep (show Below w2.heap.size w2 _ by go_grown) (World.block_lt_of_cell? w2 _ k9) _).trans k9, (bkeep (show Below w2.heap.size w2 _ by go_grown) (World.block_lt_of_cell? w2 _ k10) _).trans k10⟩); done)
              refine wpAnyH_take (i := 0) (oi := ⟨_, _, _, _, _, _⟩) (v := ?_) rfl (by kernel_rfl) (by kernel_rfl) (by kernel_rfl) (fun _ _ _ h => h) (Or.inl ⟨by rfl, ?_⟩) (by assumption) ?_; rotate_left; (focus (intro w hSw; (try dsimp only at hSw); go_simp; (try with_reducible rfl); done)); simp only [Act.put, List.setIfInBounds_toArray, List.set_cons_zero, List.set_cons_succ]
              refine wpAnyH_take (i := 1) (oi := ⟨_, _, _, _, _, _⟩) (v := ?_) rfl (by kernel_rfl) (by kernel_rfl) (by kernel_rfl) (fun _ _ _ h => h) (Or.inl ⟨by rfl, ?_⟩) (by assumption) ?_; rotate_left; (focus (intro w hSw; (try dsimp only at hSw); go_simp; (try with_reducible rfl); done)); simp only [Act.put, List.setIfInBounds_toArray, List.set_cons_zero, List.set_cons_succ]
              refine wpAnyH_take (i := 2) (oi := ⟨_, _, _, _, _, _⟩) (v := ?_) rfl (by kernel_rfl) (by kernel_rfl) (by kernel_rfl) (fun _ _ _ h => h) (Or.inl ⟨by rfl, ?_⟩) (by assumption) ?_; rotate_left; (focus (intro w hSw; (try dsimp only at hSw); go_simp; (try with_reducible rfl); done)); simp only [Act.put, List.setIfInBounds_toArray, List.set_cons_zero, List.set_cons_succ]
              refine wpAnyH_take (i := 3) (oi := ⟨_, _, _, _, _, _⟩) (v := ?_) rfl (by kernel_rfl) (by kernel_rfl) (by kernel_rfl) (fun _ _ _ h => h) (Or.inl ⟨by rfl, ?_⟩) (by assumption) ?_; rotate_left; (focus (intro w hSw; (try dsimp only at hSw); go_simp; (try with_reducible rfl); done)); simp only [Act.put, List.setIfInBounds_toArray, List.set_cons_zero, List.set_cons_succ]
              refine wpAnyH_take (i := 4) (oi := ⟨_, _, _, _, _, _⟩) (v := ?_) rfl (by kernel_rfl) (by kernel_rfl) (by kernel_rfl) (fun _ _ _ h => h) (Or.inl ⟨by rfl, ?_⟩) (by assumption) ?_; rotate_left; (focus (intro w hSw; (try dsimp only at hSw); go_simp; (try with_reducible rfl); done)); simp only [Act.put, List.setIfInBounds_toArray, List.set_cons_zero, List.set_cons_succ]
              refine wpAnyH_take (i := 5) (oi := ⟨_, _, _, _, _, _⟩) (v := ?_) rfl (by kernel_rfl) (by kernel_rfl) (by kernel_rfl) (fun _ _ _ h => h) (Or.inl ⟨by rfl, ?_⟩) (by assumption) ?_; rotate_left; (focus (intro w hSw; (try dsimp only at hSw); go_simp; (try with_reducible rfl); done)); simp only [Act.put, List.setIfInBounds_toArray, List.set_cons_zero, List.set_cons_succ]
              refine wpAnyH_take (i := 6) (oi := ⟨_, _, _, _, _, _⟩) (v := ?_) rfl (by kernel_rfl) (by kernel_rfl) (by kernel_rfl) (fun _ _ _ h => h) (Or.inl ⟨by rfl, ?_⟩) (by assumption) ?_; rotate_left; (focus (intro w hSw; (try dsimp only at hSw); go_simp; (try with_reducible rfl); done)); simp only [Act.put, List.setIfInBounds_toArray, List.set_cons_zero, List.set_cons_succ]
              refine wpAnyH_take (i := 7) (oi := ⟨_, _, _, _, _, _⟩) (v := ?_) rfl (by kernel_rfl) (by kernel_rfl) (by kernel_rfl) (fun _ _ _ h => h) (Or.inl ⟨by rfl, ?_⟩) (by assumption) ?_; rotate_left; (focus (intro w hSw; (try dsimp only at hSw); go_simp; (try with_reducible rfl); done)); simp only [Act.put, List.setIfInBounds_toArray, List.set_cons_zero, List.set_cons_succ]
              refine wpAnyH_take (i := 8) (oi := ⟨_, _, _, _, _, _⟩) (v := ?_) rfl (by kernel_rfl) (by kernel_rfl) (by kernel_rfl) (fun _ _ _ h => h) (Or.inl ⟨by rfl, ?_⟩) (by assumption) ?_; rotate_left; (focus (intro w hSw; (try dsimp only at hSw); go_simp; (try with_reducible rfl); done)); simp only [Act.put, List.setIfInBounds_toArray, List.set_cons_zero, List.set_cons_succ]
              refine wpAnyH_take (i := 9) (oi := ⟨_, _, _, _, _, _⟩) (v := ?_) rfl (by kernel_rfl) (by kernel_rfl) (by kernel_rfl) (fun _ _ _ h => h) (Or.inl ⟨by rfl, ?_⟩) (by assumption) ?_; rotate_left; (focus (intro w hSw; (try dsimp only at hSw); go_simp; (try with_reducible rfl); done)); simp only [Act.put, List.setIfInBounds_toArray, List.set_cons_zero, List.set_cons_succ]
              refine wpAnyH_take (i := 10) (oi := ⟨_, _, _, _, _, _⟩) (v := ?_) rfl (by kernel_rfl) (by kernel_rfl) (by kernel_rfl) (fun _ _ _ h => h) (Or.inl ⟨by rfl, ?_⟩) (by assumption) ?_; rotate_left; (focus (intro w hSw; (try dsimp only at hSw); go_simp; (try with_reducible rfl); done)); simp only [Act.put, List.setIfInBounds_toArray, List.set_cons_zero, List.set_cons_succ]
              refine wpAnyH_take (i := 11) (oi := ⟨_, _, _, _, _, _⟩) (v := ?_) rfl (by kernel_rfl) (by kernel_rfl) (by kernel_rfl) (fun _ _ _ h => h) (Or.inl ⟨by rfl, ?_⟩) (by assumption) ?_; rotate_left; (focus (intro w hSw; (try dsimp only at hSw); go_simp; (try with_reducible rfl); done)); simp only [Act.put, List.setIfInBounds_toArray, List.set_cons_zero, List.set_cons_succ]
              refine wpAnyH_take (i := 13) (oi := ⟨_, _, _, _, _, _⟩) (v := ?_) rfl (by kernel_rfl) (by kernel_rfl) (by kernel_rfl) (fun _ _ _ h => h) (Or.inl ⟨by rfl, ?_⟩) (by assumption) ?_; rotate_left; (focus (intro w hSw; (try dsimp only at hSw); go_simp; (try with_reducible rfl); done)); simp only [Act.put, List.setIfInBounds_toArray, List.set_cons_zero, List.set_cons_succ]
              refine wpAnyH_take (i := 15) (oi := ⟨_, _, _, _, _, _⟩) (v := ?_) rfl (by kernel_rfl) (by kernel_rfl) (by kernel_rfl) (fun _ _ _ h => h) (Or.inl ⟨by rfl, ?_⟩) (by assumption) ?_; rotate_left; (focus (intro w hSw; (try dsimp only at hSw); go_simp; (try with_reducible rfl); done)); simp only [Act.put, List.setIfInBounds_toArray, List.set_cons_zero, List.set_cons_succ]
              refine wpAnyH_ready (rs := [12]) (by kernel_rfl) (by simp) ?_
              refine AllReadyH.cons (o := ⟨_, _, _, _, _, _⟩) rfl (fun K hK => ?_) AllReadyH.nil
              go_simp
              go_wp2_with fail
              refine (add_any now st.life _).mono ?_
              rintro e wn ⟨rfl, rfl⟩
              rw [HLIF.out]
              (try go_wp2_with fail)
              refine hK.out _ _ ?_ (fun hHeld => ?_)
              focus ((try dsimp only); (first | exact ⟨(World.cell?_of_block (w := w2) (HK4.out _ (World.block_lt_of_cell? w2 _ c0) HFM.out)).trans c0, (World.cell?_of_block (w := w2) (HK4.out _ (World.block_lt_of_cell? w2 _ c2) HFM.out)).trans c2, (World.cell?_of_block (w := w2) (HK4.out _ (World.block_lt_of_cell? w2 _ k0) HWM.out)).trans k0, (World.cell?_of_block (w := w2) (HK4.out _ (World.block_lt_of_cell? w2 _ k1) HWM.out)).trans k1, (World.cell?_of_block (w := w2) (HK4.out _ (World.block_lt_of_cell? w2 _ k2) HWM.out)).trans k2, (World.cell?_of_block (w := w2) (HK4.out _ (World.block_lt_of_cell? w2 _ k3) HWM.out)).trans k3, (World.cell?_of_block (w := w2) (HK4.out _ (World.block_lt_of_cell? w2 _ k4) HWM.out)).trans k4, (World.cell?_of_block (w := w2) (HK4.out _ (World.block_lt_of_cell? w2 _ k5) HWM.out)).trans k5, (World.cell?_of_block (w := w2) (HK4.out _ (World.block_lt_of_cell? w2 _ k6) HWM.out)).trans k6, (World.cell?_of_block (w := w2) (HK4.out _ (World.block_lt_of_cell? w2 _ k7) HWM.out)).trans k7, (World.cell?_of_block (w := w2) (HK4.out _ (World.block_lt_of_cell? w2 _ k8) HWM.out)).trans k8, (World.cell?_of_block (w := w2) (HK4.out _ (World.block_lt_of_cell? w2 _ k9) HWM.out)).trans k9, (World.cell?_of_block (w := w2) (HK4.out _ (World.block_lt_of_cell? w2 _ k10) HWM.out)).trans k10⟩ | exact ⟨(bkeep (show Below w2.heap.size w2 _ by go_grown) (World.block_lt_of_cell? w2 _ c0) _).trans c0, (bkeep (show Below w2.heap.size w2 _ by go_grown) (World.block_lt_of_cell? w2 _ c2) _).trans c2, (bkeep (show Below w2.heap.size w2 _ by go_grown) (World.block_lt_of_cell? w2 _ k0) _).trans k0, (bkeep (show Below w2.heap.size w2 _ by go_grown) (World.block_lt_of_cell? w2 _ k1) _).trans k1, (bkeep (show Below w2.heap.size w2 _ by go_grown) (World.block_lt_of_cell? w2 _ k2) _).trans k2, (bkeep (show Below w2.heap.size w2 _ by go_grown) (World.block_lt_of_cell? w2 _ k3) _).trans k3, (bkeep (show Below w2.heap.size w2 _ by go_grown) (World.block_lt_of_cell? w2 _ k4) _).trans k4, (bkeep (show Below w2.heap.size w2 _ by go_grown) (World.block_lt_of_cell? w2 _ k5) _).trans k5, (bkeep (show Below w2.heap.size w2 _ by go_grown) (World.block_lt_of_cell? w2 _ k6) _).trans k6, (bkeep (show Below w2.heap.size w2 _ by go_grown) (World.block_lt_of_cell? w2 _ k7) _).trans k7, (bkeep (show Below w2.heap.size w2 _ by go_grown) (World.block_lt_of_cell? w2 _ k8) _).trans k8, (bkeep (show Below w2.heap.size w2 _ by go_grown) (World.block_lt_of_cell? w2 _ k9) _).trans k9, (bkeep (show Below w2.heap.size w2 _ by go_grown) (World.block_lt_of_cell? w2 _ k10) _).trans k10⟩); done)
              clear hK K
              (try simp only [Act.put, List.setIfInBounds_toArray, List.set_cons_zero, List.set_cons_succ])
              refine wpAnyH_ready (rs := [14]) (by kernel_rfl) (by simp) ?_
              refine AllReadyH.cons (o := ⟨_, _, _, _, _, _⟩) rfl (fun K hK => ?_) AllReadyH.nil
              go_simp
              (try go_wp2_with fail)
              refine hK.out _ _ ?_ (fun hHeld => ?_)
              focus ((try dsimp only); (first | exact ⟨(World.cell?_of_block (w := w2) (HK4.out _ (World.block_lt_of_cell? w2 _ c0) HFM.out)).trans c0, (World.cell?_of_block (w := w2) (HK4.out _ (World.block_lt_of_cell? w2 _ c2) HFM.out)).trans c2, (World.cell?_of_block (w := w2) (HK4.out _ (World.block_lt_of_cell? w2 _ k0) HWM.out)).trans k0, (World.cell?_of_block (w := w2) (HK4.out _ (World.block_lt_of_cell? w2 _ k1) HWM.out)).trans k1, (World.cell?_of_block (w := w2) (HK4.out _ (World.block_lt_of_cell? w2 _ k2) HWM.out)).trans k2, (World.cell?_of_block (w := w2) (HK4.out _ (World.block_lt_of_cell? w2 _ k3) HWM.out)).trans k3, (World.cell?_of_block (w := w2) (HK4.out _ (World.block_lt_of_cell? w2 _ k4) HWM.out)).trans k4, (World.cell?_of_block (w := w2) (HK4.out _ (World.block_lt_of_cell? w2 _ k5) HWM.out)).trans k5, (World.cell?_of_block (w := w2) (HK4.out _ (World.block_lt_of_cell? w2 _ k6) HWM.out)).trans k6, (World.cell?_of_block (w := w2) (HK4.out _ (World.block_lt_of_cell? w2 _ k7) HWM.out)).trans k7, (World.cell?_of_block (w := w2) (HK4.out _ (World.block_lt_of_cell? w2 _ k8) HWM.out)).trans k8, (World.cell?_of_block (w := w2) (HK4.out _ (World.block_lt_of_cell? w2 _ k9) HWM.out)).trans k9, (World.cell?_of_block (w := w2) (HK4.out _ (World.block_lt_of_cell? w2 _ k10) HWM.out)).trans k10⟩ | exact ⟨(bkeep (show Below w2.heap.size w2 _ by go_grown) (World.block_lt_of_cell? w2 _ c0) _).trans c0, (bkeep (show Below w2.heap.size w2 _ by go_grown) (World.block_lt_of_cell? w2 _ c2) _).trans c2, (bkeep (show Below w2.heap.size w2 _ by go_grown) (World.block_lt_of_cell? w2 _ k0) _).trans k0, (bkeep (show Below w2.heap.size w2 _ by go_grown) (World.block_lt_of_cell? w2 _ k1) _).trans k1, (bkeep (show Below w2.heap.size w2 _ by go_grown) (World.block_lt_of_cell? w2 _ k2) _).trans k2, (bkeep (show Below w2.heap.size w2 _ by go_grown) (World.block_lt_of_cell? w2 _ k3) _).trans k3, (bkeep (show Below w2.heap.size w2 _ by go_grown) (World.block_lt_of_cell? w2 _ k4) _).trans k4, (bkeep (show Below w2.heap.size w2 _ by go_grown) (World.block_lt_of_cell? w2 _ k5) _).trans k5, (bkeep (show Below w2.heap.size w2 _ by go_grown) (World.block_lt_of_cell? w2 _ k6) _).trans k6, (bkeep (show Below w2.heap.size w2 _ by go_grown) (World.block_lt_of_cell? w2 _ k7) _).trans k7, (bkeep (show Below w2.heap.size w2 _ by go_grown) (World.block_lt_of_cell? w2 _ k8) _).trans k8, (bkeep (show Below w2.heap.size w2 _ by go_grown) (World.block_lt_of_cell? w2 _ k9) _).trans k9, (bkeep (show Below w2.heap.size w2 _ by go_grown) (World.block_lt_of_cell? w2 _ k10) _).trans k10⟩); done)
              clear hK K
              (try simp only [Act.put, List.setIfInBounds_toArray, List.set_cons_zero, List.set_cons_succ])
              refine wpAnyH_take (i := 16) (oi := ⟨_, _, _, _, _, _⟩) (v := ?_) rfl (by kernel_rfl) (by kernel_rfl) (by kernel_rfl) (fun _ _ _ h => h) (Or.inl ⟨by rfl, ?_⟩) (by assumption) ?_; rotate_left; (focus (intro w hSw; (try dsimp only at hSw); go_simp; (try with_reducible rfl); done)); simp only [Act.put, List.setIfInBounds_toArray, List.set_cons_zero, List.set_cons_succ]
              refine wpAnyH_ready (rs := [17]) (by kernel_rfl) (by simp) ?_
              refine AllReadyH.cons (o := ⟨_, _, _, _, _, _⟩) rfl (fun K hK => ?_) AllReadyH.nil
              go_simp
              (try go_wp2_with fail)
              refine hK.out _ _ ?_ (fun hHeld => ?_)
              focus ((try dsimp only); (first | exact ⟨(World.cell?_of_block (w := w2) (HK4.out _ (World.block_lt_of_cell? w2 _ c0) HFM.out)).trans c0, (World.cell?_of_block (w := w2) (HK4.out _ (World.block_lt_of_cell? w2 _ c2) HFM.out)).trans c2, (World.cell?_of_block (w := w2) (HK4.out _ (World.block_lt_of_cell? w2 _ k0) HWM.out)).trans k0, (World.cell?_of_block (w := w2) (HK4.out _ (World.block_lt_of_cell? w2 _ k1) HWM.out)).trans k1, (World.cell?_of_block (w := w2) (HK4.out _ (World.block_lt_of_cell? w2 _ k2) HWM.out)).trans k2, (World.cell?_of_block (w := w2) (HK4.out _ (World.block_lt_of_cell? w2 _ k3) HWM.out)).trans k3, (World.cell?_of_block (w := w2) (HK4.out _ (World.block_lt_of_cell? w2 _ k4) HWM.out)).trans k4, (World.cell?_of_block (w := w2) (HK4.out _ (World.block_lt_of_cell? w2 _ k5) HWM.out)).trans k5, (World.cell?_of_block (w := w2) (HK4.out _ (World.block_lt_of_cell? w2 _ k6) HWM.out)).trans k6, (World.cell?_of_block (w := w2) (HK4.out _ (World.block_lt_of_cell? w2 _ k7) HWM.out)).trans k7, (World.cell?_of_block (w := w2) (HK4.out _ (World.block_lt_of_cell? w2 _ k8) HWM.out)).trans k8, (World.cell?_of_block (w := w2) (HK4.out _ (World.block_lt_of_cell? w2 _ k9) HWM.out)).trans k9, (World.cell?_of_block (w := w2) (HK4.out _ (World.block_lt_of_cell? w2 _ k10) HWM.out)).trans k10⟩ | exact ⟨(bkeep (show Below w2.heap.size w2 _ by go_grown) (World.block_lt_of_cell? w2 _ c0) _).trans c0, (bkeep (show Below w2.heap.size w2 _ by go_grown) (World.block_lt_of_cell? w2 _ c2) _).trans c2, (bkeep (show Below w2.heap.size w2 _ by go_grown) (World.block_lt_of_cell? w2 _ k0) _).trans k0, (bkeep (show Below w2.heap.size w2 _ by go_grown) (World.block_lt_of_cell? w2 _ k1) _).trans k1, (bkeep (show Below w2.heap.size w2 _ by go_grown) (World.block_lt_of_cell? w2 _ k2) _).trans k2, (bkeep (show Below w2.heap.size w2 _ by go_grown) (World.block_lt_of_cell? w2 _ k3) _).trans k3, (bkeep (show Below w2.heap.size w2 _ by go_grown) (World.block_lt_of_cell? w2 _ k4) _).trans k4, (bkeep (show Below w2.heap.size w2 _ by go_grown) (World.block_lt_of_cell? w2 _ k5) _).trans k5, (bkeep (show Below w2.heap.size w2 _ by go_grown) (World.block_lt_of_cell? w2 _ k6) _).trans k6, (bkeep (show Below w2.heap.size w2 _ by go_grown) (World.block_lt_of_cell? w2 _ k7) _).trans k7, (bkeep (show Below w2.heap.size w2 _ by go_grown) (World.block_lt_of_cell? w2 _ k8) _).trans k8, (bkeep (show Below w2.heap.size w2 _ by go_grown) (World.block_lt_of_cell? w2 _ k9) _).trans k9, (bkeep (show Below w2.heap.size w2 _ by go_grown) (World.block_lt_of_cell? w2 _ k10) _).trans k10⟩); done)
              clear hK K
              (try simp only [Act.put, List.setIfInBounds_toArray, List.set_cons_zero, List.set_cons_succ])
              refine wpAnyH_ready (rs := [18]) (by kernel_rfl) (by simp) ?_
              refine AllReadyH.cons (o := ⟨_, _, _, _, _, _⟩) rfl (fun K hK => ?_) AllReadyH.nil
              go_simp
              rw [HR1.out]
              (try go_wp2_with fail)
              refine hK.out _ _ ?_ (fun hHeld => ?_)
              focus ((try dsimp only); (first | exact ⟨(World.cell?_of_block (w := w2) (HK4.out _ (World.block_lt_of_cell? w2 _ c0) HFM.out)).trans c0, (World.cell?_of_block (w := w2) (HK4.out _ (World.block_lt_of_cell? w2 _ c2) HFM.out)).trans c2, (World.cell?_of_block (w := w2) (HK4.out _ (World.block_lt_of_cell? w2 _ k0) HWM.out)).trans k0, (World.cell?_of_block (w := w2) (HK4.out _ (World.block_lt_of_cell? w2 _ k1) HWM.out)).trans k1, (World.cell?_of_block (w := w2) (HK4.out _ (World.block_lt_of_cell? w2 _ k2) HWM.out)).trans k2, (World.cell?_of_block (w := w2) (HK4.out _ (World.block_lt_of_cell? w2 _ k3) HWM.out)).trans k3, (World.cell?_of_block (w := w2) (HK4.out _ (World.block_lt_of_cell? w2 _ k4) HWM.out)).trans k4, (World.cell?_of_block (w := w2) (HK4.out _ (World.block_lt_of_cell? w2 _ k5) HWM.out)).trans k5, (World.cell?_of_block (w := w2) (HK4.out _ (World.block_lt_of_cell? w2 _ k6) HWM.out)).trans k6, (World.cell?_of_block (w := w2) (HK4.out _ (World.block_lt_of_cell? w2 _ k7) HWM.out)).trans k7, (World.cell?_of_block (w := w2) (HK4.out _ (World.block_lt_of_cell? w2 _ k8) HWM.out)).trans k8, (World.cell?_of_block (w := w2) (HK4.out _ (World.block_lt_of_cell? w2 _ k9) HWM.out)).trans k9, (World.cell?_of_block (w := w2) (HK4.out _ (World.block_lt_of_cell? w2 _ k10) HWM.out)).trans k10⟩ | exact ⟨(bkeep (show Below w2.heap.size w2 _ by go_grown) (World.block_lt_of_cell? w2 _ c0) _).trans c0, (bkeep (show Below w2.heap.size w2 _ by go_grown) (World.block_lt_of_cell? w2 _ c2) _).trans c2, (bkeep (show Below w2.heap.size w2 _ by go_grown) (World.block_lt_of_cell? w2 _ k0) _).trans k0, (bkeep (show Below w2.heap.size w2 _ by go_grown) (World.block_lt_of_cell? w2 _ k1) _).trans k1, (bkeep (show Below w2.heap.size w2 _ by go_grown) (World.block_lt_of_cell? w2 _ k2) _).trans k2, (bkeep (show Below w2.heap.size w2 _ by go_grown) (World.block_lt_of_cell? w2 _ k3) _).trans k3, (bkeep (show Below w2.heap.size w2 _ by go_grown) (World.block_lt_of_cell? w2 _ k4) _).trans k4, (bkeep (show Below w2.heap.size w2 _ by go_grown) (World.block_lt_of_cell? w2 _ k5) _).trans k5, (bkeep (show Below w2.heap.size w2 _ by go_grown) (World.block_lt_of_cell? w2 _ k6) _).trans k6, (bkeep (show Below w2.heap.size w2 _ by go_grown) (World.block_lt_of_cell? w2 _ k7) _).trans k7, (bkeep (show Below w2.heap.size w2 _ by go_grown) (World.block_lt_of_cell? w2 _ k8) _).trans k8, (bkeep (show Below w2.heap.size w2 _ by go_grown) (World.block_lt_of_cell? w2 _ k9) _).trans k9, (bkeep (show Below w2.heap.size w2 _ by go_grown) (World.block_lt_of_cell? w2 _ k10) _).trans k10⟩); done)
              clear hK K
              (try simp only [Act.put, List.setIfInBounds_toArray, List.set_cons_zero, List.set_cons_succ])
              refine wpAnyH_done (by kernel_rfl) ?_ _
              have hr2 := HR2.out
              go_wp2
              go_ret
              exact ⟨by rw [HR.out]; rfl, by rw [HR.out]; exact HRE5.out, HMO.out⟩
      · obtain ⟨ce, hcee⟩ : ∃ ce, chkS g.scopes = ce := ⟨_, rfl⟩
        have HR := Lib.hid (show start st i t g now = (st, ce) by
          have e := HG.out
          rw [if_pos hce] at e
          rw [start_err (by rw [e]; exact hce), e, hcee])
        rw [hcee] at hce ⊢
        clear hcee HG
        go_wp2
        go_ret
        exact num_same HR.out HRE.out HB0.out
end Go.Proofs.Ytfeljihbaekfmaa.Rf
