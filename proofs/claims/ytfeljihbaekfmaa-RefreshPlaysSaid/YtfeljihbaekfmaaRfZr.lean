/-
  The statements' done: one call of the reference.
-/
import Derived.Test.YtfeljihbaekfmaaRfXh2
import Derived.Test.YtfeljihbaekfmaaRfXi1
import Derived.Test.YtfeljihbaekfmaaRfXi2
import Derived.Test.YtfeljihbaekfmaaRfZ
import Derived.Laws.Tables
namespace Go.Proofs.Ytfeljihbaekfmaa.Rf
open Go.RowKit Go.Proofs.Ytfeljihbaekfmaa.Fo

theorem findV_at {l : List Fm} {t : Bs} {i : Nat} {x : Fm} (h : tokI l t = some i) (hx : l[i]? = some x) : findV l t = ((i : Int), ((posT x t : Nat) : Int)) := by
  unfold findV
  rw [h]
  simp only [hx]
theorem pos_get {x : Fm} {t : Bs} (h : t ∈ x.toks) : posT x t < x.toks.length ∧ x.toks[posT x t]? = some t := by
  have h1 : posT x t < x.toks.length := List.findIdx_lt_length_of_exists ⟨t, h, by simp⟩
  refine ⟨h1, ?_⟩
  have h2 := List.findIdx_getElem (p := fun s => decide (s = t)) (xs := x.toks) (w := h1)
  rw [List.getElem?_eq_getElem h1]
  simp only [decide_eq_true_eq] at h2
  exact congrArg some h2
theorem pos_last {x : Fm} {t : Bs} (hd : x.toks.Nodup) (h : t ∈ x.toks) : t = cur x ↔ ¬ ((posT x t : Nat) : Int) < (x.toks.length : Int) - 1 := by
  obtain ⟨h1, h2⟩ := pos_get h
  have hne : x.toks ≠ [] := fun e => by rw [e] at h; cases h
  have hl : x.toks[x.toks.length - 1]? = some (cur x) := by
    unfold cur
    rw [List.getLast?_eq_getElem?]
    rw [List.getElem?_eq_getElem (by omega)]
    rfl
  constructor
  · intro e
    rw [← e] at hl
    have := nodup_at hd h2 hl
    omega
  · intro e
    have e2 : posT x t = x.toks.length - 1 := by omega
    rw [e2, hl] at h2
    exact (Option.some.inj h2).symm
theorem rrotate_any {w : World} {S : Nat → Prop} {G : Nat} {st : St} (h : RefE w S G st) (t n c : Bs) (sc : List Bs) (B : Option Addr) (m d : Nat) (now : Int) (hn : n.size ≤ 100000)
    (hs : Ss w B m d sc) (hsh : Short sc) (hmm : m ≤ 1000) (hBS : ∀ a, B = some a → 0 < m → ¬ S a.block) :
    Calls Try.prog 35 #[.pointer (some ⟨G, 0, none⟩), .string t, .string n, .string c, .slice B m d, .int .i64 now] w (RRotIs w S G (rot st t n c sc now)) := by
  have hinv := h.inv
  cases hti : tokI st.l t with
  | none => exact rrot_6 h t n c sc B m d now hn hs hsh hmm (by unfold findV; rw [hti]) (rot_none hti)
  | some i =>
    obtain ⟨x, hx, htx⟩ := tokI_some hti
    have hV := findV_at hti hx
    have hm := List.mem_of_getElem? hx
    have hne := hinv.ne x hm
    have hP := pos_last (hinv.nd x hm) htx
    by_cases e0 : c = x.g.client
    · have q0 : (x.g.client.toList == c.toList) = true := by rw [beq_bs]; simpa using e0.symm
      by_cases e1 : t = cur x
      · have q1 := hP.1 e1
        have hE : ∀ now', rotE st x t n c sc now' = _ := fun now' => rotE_1 (st := st) (n := n) (sc := sc) (now := now') e0 hne e1
        by_cases e2 : x.ended = true
        · exact rrot_25 h t n c sc B m d now hn hs hsh hmm i _ x hV hx q0 q1 e2 (rot_is hti hx (by rw [hE, if_pos e2]) (by decide) (by decide))
        · have q2 : x.ended = false := by simpa using e2
          by_cases e3 : x.untl ≤ limI now
          · exact rrot_13 h t n c sc B m d now hn hs hsh hmm i _ x hV hx q0 q1 q2 e3 (rot_is hti hx (by rw [hE, if_neg e2, if_pos e3]) (by decide) (by decide))
          · by_cases e4 : wrd n = false
            · exact rrot_5 h t n c sc B m d now hn hs hsh hmm i _ x hV hx q0 q1 q2 e3 e4 (rot_is hti hx (by rw [hE, if_neg e2, if_neg e3, if_pos e4]) (by decide) (by decide))
            · have q4 : wrd n = true := by simpa using e4
              by_cases e5 : tokI st.l n = none
              · have q5 : findV st.l n = (-1, -1) := by unfold findV; rw [e5]
                by_cases e6 : withinS sc x.g.scopes = false
                · exact rrot_19 h t n c sc B m d now hn hs hsh hmm i _ x hV hx q0 q1 q2 e3 q4 q5 e6 (rot_is hti hx (by rw [hE, if_neg e2, if_neg e3, if_neg e4, if_neg (by simp [e5]), if_pos e6]) (by decide) (by decide))
                · have q6 : withinS sc x.g.scopes = true := by simpa using e6
                  by_cases e7 : 256 ≤ x.toks.length
                  · exact rrot_3 h t n c sc B m d now hn hs hsh hmm i _ x hV hx q0 q1 q2 e3 q4 q5 q6 e7 (rot_is hti hx (by rw [hE, if_neg e2, if_neg e3, if_neg e4, if_neg (by simp [e5]), if_neg e6, if_pos e7]) (by decide) (by decide))
                  · have hr := rot_ok (st := st) (t := t) (n := n) (c := c) (sc := sc) (now := now) hti hx (by rw [hE, if_neg e2, if_neg e3, if_neg e4, if_neg (by simp [e5]), if_neg e6, if_neg e7])
                    rcases Nat.eq_zero_or_pos m with hm0 | hm0
                    · exact rrot_0a h t n c sc B m d now hn hs hsh hmm i _ x hm0 hV hx q0 q1 q2 e3 q4 q5 q6 e7 hr
                    · exact rrot_0b h t n c sc B m d now hn hs hsh hmm i _ x hm0 hV hx q0 q1 q2 e3 q4 q5 q6 e7 hBS hr
              · obtain ⟨i2, k2, q5⟩ : ∃ a b : Nat, findV st.l n = ((a : Int), (b : Int)) := by
                  rcases findV_none (l := st.l) (t := n) with h9 | h9
                  · exact absurd (findV_no h9) e5
                  · exact h9
                exact rrot_7 h t n c sc B m d now hn hs hsh hmm i _ x hV hx q0 q1 q2 e3 q4 i2 k2 q5 (rot_is hti hx (by rw [hE, if_neg e2, if_neg e3, if_neg e4, if_pos e5]) (by decide) (by decide))
      · exact rrot_18 h t n c sc B m d now hn hs hsh hmm i _ x hV hx q0 (Classical.not_not.1 (fun e => e1 (hP.2 e))) (rot_rep hti hx (rotE_18 e0 hne e1))
    · exact rrot_11 h t n c sc B m d now hn hs hsh hmm i _ x hV hx (by rw [beq_bs]; simpa using fun e => e0 e.symm) (rot_is hti hx (rotE_11 e0) (by decide) (by decide))
/-- A grant and a number come back from the reference. -/
def RDoIs (w : World) (S : Nat → Prop) (F : Nat) (r : St × (Gr × Int)) (e : Ending) (w' : World) : Prop :=
  ∃ A d, e = .returned (.tuple #[.agg #[.string r.2.1.user, .string r.2.1.client, .string r.2.1.tenant, .string r.2.1.session, .string r.2.1.redirect, .string r.2.1.nonce, .string r.2.1.challenge, .int .i64 r.2.1.method, (.slice A r.2.1.scopes.length d), .int .i64 r.2.1.auth, .int .i64 r.2.1.level], .int .i64 r.2.2]) ∧ Ss w' A r.2.1.scopes.length d r.2.1.scopes ∧ (∀ a, A = some a → 0 < r.2.1.scopes.length → S a.block ∨ w.heap.size ≤ a.block) ∧ RefE w' (grow S w w') F r.1 ∧ Mods S w w'
theorem ref_grow (wx : World) {w' : World} {S : Nat → Prop} {G : Nat} {st : St} (h : RefE w' S G st) : RefE w' (Go.Proofs.Ytfeljihbaekfmaa.grow S wx w') G st :=
  h.keep (fun _ e => Or.inl e) (fun _ _ => rfl) (Nat.le_refl _) (fun k e => by
    rcases e with e | e
    · exact h.lt k e
    · exact e.2)
theorem rdo_no {w w' : World} {S : Nat → Prop} {F : Nat} {st : St} {k : Int} {r : St × (Gr × Int)} (hr : r = (st, (noG, k))) (h : RefE w S F st) (hb : Below w.heap.size w w') : RDoIs w S F r (.returned (.tuple #[.agg #[.string ⟨#[]⟩, .string ⟨#[]⟩, .string ⟨#[]⟩, .string ⟨#[]⟩, .string ⟨#[]⟩, .string ⟨#[]⟩, .string ⟨#[]⟩, .int .i64 0, .slice none 0 0, .int .i64 0, .int .i64 0], .int .i64 k])) w' := by
  subst hr
  obtain ⟨_, h2, h3⟩ := rnum_same (r := (st, 0)) rfl h hb
  exact ⟨none, 0, rfl, Ss.nil _ _ _, (fun a h => by cases h), h2, h3⟩
theorem ref_mods {w wx w' : World} {S : Nat → Prop} {F : Nat} {st : St} (hb : Below w.heap.size w wx) (h : RefE w' (grow S wx w') F st) (hm : Mods S wx w') : RefE w' (grow S w w') F st ∧ Mods S w w' :=
  ⟨h.keep (fun k e => by
      rcases e with e | e
      · exact Or.inl e
      · exact Or.inr ⟨by have := hb.size; omega, e.2⟩) (fun _ _ => rfl) (Nat.le_refl _) (fun k e => by
      rcases e with e | e
      · exact h.lt k (Or.inl e)
      · exact e.2), ⟨hm.os.trans hb.os, hm.tape.trans hb.tape, hm.output.trans hb.output, Nat.le_trans hb.size hm.size, fun k hk hn => (hm.block k (Nat.lt_of_lt_of_le hk hb.size) hn).trans (hb.block k hk)⟩⟩
theorem rnum_rot {w w' wx : World} {S : Nat → Prop} {F : Nat} {st' : St} {k : Int} {r : St × (Gr × Int)} (hr : r = (st', (noG, k))) (hb : Below w.heap.size w wx) (h : RefE w' (grow S wx w') F st') (hm : Mods S wx w') : RDoIs w S F r (.returned (.tuple #[.agg #[.string ⟨#[]⟩, .string ⟨#[]⟩, .string ⟨#[]⟩, .string ⟨#[]⟩, .string ⟨#[]⟩, .string ⟨#[]⟩, .string ⟨#[]⟩, .int .i64 0, .slice none 0 0, .int .i64 0, .int .i64 0], .int .i64 k])) w' := by
  subst hr
  obtain ⟨h1, h2⟩ := ref_mods hb h hm
  exact ⟨none, 0, rfl, Ss.nil _ _ _, (fun a h => by cases h), h1, h2⟩
set_option maxRecDepth 100000 in
set_option maxHeartbeats 4000000 in
theorem rdo_3 {w : World} {S : Nat → Prop} {F : Nat} {st : St} (h : RefE w S F st) (x : Opx) (A : Option Addr) (d : Nat) (hs : Ss w A x.sc.length d x.sc) (hok : opOk x = true) (hBS : ∀ a, A = some a → 0 < x.sc.length → ¬ S a.block) (q0 : (x.call == 0) = false) (q1 : (x.call == 1) = false) (q2 : (x.call == 2) = false) (q3 : (x.call == 3) = true) (hr : doS st x = (endS (isSes x.ses) st, (noG, ((endN (isSes x.ses) st : Nat) : Int)))) :
    Calls Try.prog 14 #[.pointer (some ⟨F, 0, none⟩), .agg #[.int .i64 x.call, .int .i64 x.now, .string x.id, .string x.tok, .string x.nxt, .string x.user, .string x.cl, .string x.ses, .slice A x.sc.length d]] w (RDoIs w S F (doS st x)) := by
  obtain ⟨z1, z2, z3, z4, z5, z6, z7, z8⟩ := ok_parts hok
  have HH := Lib.hid h
  have HS := Lib.hid hs
  have HBS := Lib.hid hBS
  have HR := Lib.hid hr
  have HZ8 := Lib.hid z8
  clear h hs hBS hr z8 hok
  go_enter Try.func14, Try.ntmps14
  go_upto_region 1 with fail
  obtain ⟨wx, hwx⟩ : ∃ wx, wx = (w.alloc (.cells #[.int .i64 x.call, .int .i64 x.now, .string x.id, .string x.tok, .string x.nxt, .string x.user, .string x.cl, .string x.ses, .slice A x.sc.length d] 39)).alloc (.cells #[.string ⟨#[]⟩, .string ⟨#[]⟩, .string ⟨#[]⟩, .string ⟨#[]⟩, .string ⟨#[]⟩, .string ⟨#[]⟩, .string ⟨#[]⟩, .int .i64 0, .slice none 0 0, .int .i64 0, .int .i64 0] 35) := ⟨_, rfl⟩
  rw [← hwx]
  have HBX := Lib.hid (show Below w.heap.size w wx by rw [hwx]; go_grown)
  have HX3 := Lib.hid (show wx.heap[w.heap.size]? = some (.cells #[.int .i64 x.call, .int .i64 x.now, .string x.id, .string x.tok, .string x.nxt, .string x.user, .string x.cl, .string x.ses, .slice A x.sc.length d] 39 (0, 0)) by rw [hwx]; rw [Below.heap_alloc _ _ _ (by simp)]; exact heap_alloc_new _ _)
  have HZX := Lib.hid (show wx.heap[w.heap.size + 1]? = some (.cells #[.string ⟨#[]⟩, .string ⟨#[]⟩, .string ⟨#[]⟩, .string ⟨#[]⟩, .string ⟨#[]⟩, .string ⟨#[]⟩, .string ⟨#[]⟩, .int .i64 0, .slice none 0 0, .int .i64 0, .int .i64 0] 35 (0, 0)) by
    rw [hwx]
    have e : w.heap.size + 1 = (w.alloc (.cells #[.int .i64 x.call, .int .i64 x.now, .string x.id, .string x.tok, .string x.nxt, .string x.user, .string x.cl, .string x.ses, .slice A x.sc.length d] 39)).heap.size := by simp
    rw [e]; exact heap_alloc_new _ _)
  have HHX := Lib.hid (HH.out.below HBX.out)
  have HLT := Lib.hid HH.out.lt
  clear hwx
  have x0 := cell_block HX3.out 0
  have x7 := cell_block HX3.out 7
  simp only [List.getElem?_toArray, List.getElem?_cons_zero, List.getElem?_cons_succ] at x0 x7
  go_wp2_with fail
  refine (rSes_any HHX.out x.ses).mono ?_
  rintro e w1 ⟨rfl, hr1, hm1⟩
  have HR1 := Lib.hid (ref_grow wx hr1)
  have HM1 := Lib.hid hm1
  have HZ1 := Lib.hid ((HM1.out.block (w.heap.size + 1) (blk_lt HZX.out) (fun e => by have := HLT.out _ e; omega)).trans HZX.out)
  clear hr1 hm1
  go_wp2_with (refine store_none rfl (.tmp 4) (.tmp 59) rfl (w.heap.size + 1) rfl rfl HZ1.out ?_)
  obtain ⟨y0, y1, y2, y3, y4, y5, y6, y7, y8, y9, y10⟩ := cells11 HZ1.out
  refine bodyPost_ret (v := .tuple #[.agg #[.string ⟨#[]⟩, .string ⟨#[]⟩, .string ⟨#[]⟩, .string ⟨#[]⟩, .string ⟨#[]⟩, .string ⟨#[]⟩, .string ⟨#[]⟩, .int .i64 0, .slice none 0 0, .int .i64 0, .int .i64 0], .int .i64 ((endN (isSes x.ses) st : Nat) : Int)]) (by simp [results, Try.results14, go_sem, y0, y1, y2, y3, y4, y5, y6, y7, y8, y9, y10]) rfl ?_
  exact rnum_rot HR.out HBX.out HR1.out HM1.out
set_option maxRecDepth 100000 in
set_option maxHeartbeats 4000000 in
theorem rdo_4 {w : World} {S : Nat → Prop} {F : Nat} {st : St} (h : RefE w S F st) (x : Opx) (A : Option Addr) (d : Nat) (hs : Ss w A x.sc.length d x.sc) (hok : opOk x = true) (hBS : ∀ a, A = some a → 0 < x.sc.length → ¬ S a.block) (q0 : (x.call == 0) = false) (q1 : (x.call == 1) = false) (q2 : (x.call == 2) = false) (q3 : (x.call == 3) = false) (q4 : (x.call == 4) = true) (hr : doS st x = (endS (isUsr x.user) st, (noG, ((endN (isUsr x.user) st : Nat) : Int)))) :
    Calls Try.prog 14 #[.pointer (some ⟨F, 0, none⟩), .agg #[.int .i64 x.call, .int .i64 x.now, .string x.id, .string x.tok, .string x.nxt, .string x.user, .string x.cl, .string x.ses, .slice A x.sc.length d]] w (RDoIs w S F (doS st x)) := by
  obtain ⟨z1, z2, z3, z4, z5, z6, z7, z8⟩ := ok_parts hok
  have HH := Lib.hid h
  have HS := Lib.hid hs
  have HBS := Lib.hid hBS
  have HR := Lib.hid hr
  have HZ8 := Lib.hid z8
  clear h hs hBS hr z8 hok
  go_enter Try.func14, Try.ntmps14
  go_upto_region 1 with fail
  obtain ⟨wx, hwx⟩ : ∃ wx, wx = (w.alloc (.cells #[.int .i64 x.call, .int .i64 x.now, .string x.id, .string x.tok, .string x.nxt, .string x.user, .string x.cl, .string x.ses, .slice A x.sc.length d] 39)).alloc (.cells #[.string ⟨#[]⟩, .string ⟨#[]⟩, .string ⟨#[]⟩, .string ⟨#[]⟩, .string ⟨#[]⟩, .string ⟨#[]⟩, .string ⟨#[]⟩, .int .i64 0, .slice none 0 0, .int .i64 0, .int .i64 0] 35) := ⟨_, rfl⟩
  rw [← hwx]
  have HBX := Lib.hid (show Below w.heap.size w wx by rw [hwx]; go_grown)
  have HX3 := Lib.hid (show wx.heap[w.heap.size]? = some (.cells #[.int .i64 x.call, .int .i64 x.now, .string x.id, .string x.tok, .string x.nxt, .string x.user, .string x.cl, .string x.ses, .slice A x.sc.length d] 39 (0, 0)) by rw [hwx]; rw [Below.heap_alloc _ _ _ (by simp)]; exact heap_alloc_new _ _)
  have HZX := Lib.hid (show wx.heap[w.heap.size + 1]? = some (.cells #[.string ⟨#[]⟩, .string ⟨#[]⟩, .string ⟨#[]⟩, .string ⟨#[]⟩, .string ⟨#[]⟩, .string ⟨#[]⟩, .string ⟨#[]⟩, .int .i64 0, .slice none 0 0, .int .i64 0, .int .i64 0] 35 (0, 0)) by
    rw [hwx]
    have e : w.heap.size + 1 = (w.alloc (.cells #[.int .i64 x.call, .int .i64 x.now, .string x.id, .string x.tok, .string x.nxt, .string x.user, .string x.cl, .string x.ses, .slice A x.sc.length d] 39)).heap.size := by simp
    rw [e]; exact heap_alloc_new _ _)
  have HHX := Lib.hid (HH.out.below HBX.out)
  have HLT := Lib.hid HH.out.lt
  clear hwx
  have x0 := cell_block HX3.out 0
  have x5 := cell_block HX3.out 5
  simp only [List.getElem?_toArray, List.getElem?_cons_zero, List.getElem?_cons_succ] at x0 x5
  go_wp2_with fail
  refine (rUsr_any HHX.out x.user).mono ?_
  rintro e w1 ⟨rfl, hr1, hm1⟩
  have HR1 := Lib.hid (ref_grow wx hr1)
  have HM1 := Lib.hid hm1
  have HZ1 := Lib.hid ((HM1.out.block (w.heap.size + 1) (blk_lt HZX.out) (fun e => by have := HLT.out _ e; omega)).trans HZX.out)
  clear hr1 hm1
  go_wp2_with (refine store_none rfl (.tmp 4) (.tmp 66) rfl (w.heap.size + 1) rfl rfl HZ1.out ?_)
  obtain ⟨y0, y1, y2, y3, y4, y5, y6, y7, y8, y9, y10⟩ := cells11 HZ1.out
  refine bodyPost_ret (v := .tuple #[.agg #[.string ⟨#[]⟩, .string ⟨#[]⟩, .string ⟨#[]⟩, .string ⟨#[]⟩, .string ⟨#[]⟩, .string ⟨#[]⟩, .string ⟨#[]⟩, .int .i64 0, .slice none 0 0, .int .i64 0, .int .i64 0], .int .i64 ((endN (isUsr x.user) st : Nat) : Int)]) (by simp [results, Try.results14, go_sem, y0, y1, y2, y3, y4, y5, y6, y7, y8, y9, y10]) rfl ?_
  exact rnum_rot HR.out HBX.out HR1.out HM1.out
set_option maxRecDepth 100000 in
set_option maxHeartbeats 4000000 in
theorem rdo_5 {w : World} {S : Nat → Prop} {F : Nat} {st : St} (h : RefE w S F st) (x : Opx) (A : Option Addr) (d : Nat) (hs : Ss w A x.sc.length d x.sc) (hok : opOk x = true) (hBS : ∀ a, A = some a → 0 < x.sc.length → ¬ S a.block) (q0 : (x.call == 0) = false) (q1 : (x.call == 1) = false) (q2 : (x.call == 2) = false) (q3 : (x.call == 3) = false) (q4 : (x.call == 4) = false) (q5 : (x.call == 5) = true) (hr : doS st x = (endS (isCli x.user x.cl) st, (noG, ((endN (isCli x.user x.cl) st : Nat) : Int)))) :
    Calls Try.prog 14 #[.pointer (some ⟨F, 0, none⟩), .agg #[.int .i64 x.call, .int .i64 x.now, .string x.id, .string x.tok, .string x.nxt, .string x.user, .string x.cl, .string x.ses, .slice A x.sc.length d]] w (RDoIs w S F (doS st x)) := by
  obtain ⟨z1, z2, z3, z4, z5, z6, z7, z8⟩ := ok_parts hok
  have HH := Lib.hid h
  have HS := Lib.hid hs
  have HBS := Lib.hid hBS
  have HR := Lib.hid hr
  have HZ8 := Lib.hid z8
  clear h hs hBS hr z8 hok
  go_enter Try.func14, Try.ntmps14
  go_upto_region 1 with fail
  obtain ⟨wx, hwx⟩ : ∃ wx, wx = (w.alloc (.cells #[.int .i64 x.call, .int .i64 x.now, .string x.id, .string x.tok, .string x.nxt, .string x.user, .string x.cl, .string x.ses, .slice A x.sc.length d] 39)).alloc (.cells #[.string ⟨#[]⟩, .string ⟨#[]⟩, .string ⟨#[]⟩, .string ⟨#[]⟩, .string ⟨#[]⟩, .string ⟨#[]⟩, .string ⟨#[]⟩, .int .i64 0, .slice none 0 0, .int .i64 0, .int .i64 0] 35) := ⟨_, rfl⟩
  rw [← hwx]
  have HBX := Lib.hid (show Below w.heap.size w wx by rw [hwx]; go_grown)
  have HX3 := Lib.hid (show wx.heap[w.heap.size]? = some (.cells #[.int .i64 x.call, .int .i64 x.now, .string x.id, .string x.tok, .string x.nxt, .string x.user, .string x.cl, .string x.ses, .slice A x.sc.length d] 39 (0, 0)) by rw [hwx]; rw [Below.heap_alloc _ _ _ (by simp)]; exact heap_alloc_new _ _)
  have HZX := Lib.hid (show wx.heap[w.heap.size + 1]? = some (.cells #[.string ⟨#[]⟩, .string ⟨#[]⟩, .string ⟨#[]⟩, .string ⟨#[]⟩, .string ⟨#[]⟩, .string ⟨#[]⟩, .string ⟨#[]⟩, .int .i64 0, .slice none 0 0, .int .i64 0, .int .i64 0] 35 (0, 0)) by
    rw [hwx]
    have e : w.heap.size + 1 = (w.alloc (.cells #[.int .i64 x.call, .int .i64 x.now, .string x.id, .string x.tok, .string x.nxt, .string x.user, .string x.cl, .string x.ses, .slice A x.sc.length d] 39)).heap.size := by simp
    rw [e]; exact heap_alloc_new _ _)
  have HHX := Lib.hid (HH.out.below HBX.out)
  have HLT := Lib.hid HH.out.lt
  clear hwx
  have x0 := cell_block HX3.out 0
  have x5 := cell_block HX3.out 5
  have x6 := cell_block HX3.out 6
  simp only [List.getElem?_toArray, List.getElem?_cons_zero, List.getElem?_cons_succ] at x0 x5 x6
  go_wp2_with fail
  refine (rCli_any HHX.out x.user x.cl).mono ?_
  rintro e w1 ⟨rfl, hr1, hm1⟩
  have HR1 := Lib.hid (ref_grow wx hr1)
  have HM1 := Lib.hid hm1
  have HZ1 := Lib.hid ((HM1.out.block (w.heap.size + 1) (blk_lt HZX.out) (fun e => by have := HLT.out _ e; omega)).trans HZX.out)
  clear hr1 hm1
  go_wp2_with (refine store_none rfl (.tmp 4) (.tmp 73) rfl (w.heap.size + 1) rfl rfl HZ1.out ?_)
  obtain ⟨y0, y1, y2, y3, y4, y5, y6, y7, y8, y9, y10⟩ := cells11 HZ1.out
  refine bodyPost_ret (v := .tuple #[.agg #[.string ⟨#[]⟩, .string ⟨#[]⟩, .string ⟨#[]⟩, .string ⟨#[]⟩, .string ⟨#[]⟩, .string ⟨#[]⟩, .string ⟨#[]⟩, .int .i64 0, .slice none 0 0, .int .i64 0, .int .i64 0], .int .i64 ((endN (isCli x.user x.cl) st : Nat) : Int)]) (by simp [results, Try.results14, go_sem, y0, y1, y2, y3, y4, y5, y6, y7, y8, y9, y10]) rfl ?_
  exact rnum_rot HR.out HBX.out HR1.out HM1.out
set_option maxRecDepth 100000 in
set_option maxHeartbeats 4000000 in
theorem rdo_2 {w : World} {S : Nat → Prop} {F : Nat} {st : St} (h : RefE w S F st) (x : Opx) (A : Option Addr) (d : Nat) (hs : Ss w A x.sc.length d x.sc) (hok : opOk x = true) (hBS : ∀ a, A = some a → 0 < x.sc.length → ¬ S a.block) (q0 : (x.call == 0) = false) (q1 : (x.call == 1) = false) (q2 : (x.call == 2) = true) (hr : doS st x = (endS (isId x.id) st, (noG, if decide (endN (isId x.id) st = 1) then 1 else 0))) :
    Calls Try.prog 14 #[.pointer (some ⟨F, 0, none⟩), .agg #[.int .i64 x.call, .int .i64 x.now, .string x.id, .string x.tok, .string x.nxt, .string x.user, .string x.cl, .string x.ses, .slice A x.sc.length d]] w (RDoIs w S F (doS st x)) := by
  obtain ⟨z1, z2, z3, z4, z5, z6, z7, z8⟩ := ok_parts hok
  have HH := Lib.hid h
  have HS := Lib.hid hs
  have HBS := Lib.hid hBS
  have HR := Lib.hid hr
  have HZ8 := Lib.hid z8
  clear h hs hBS hr z8 hok
  go_enter Try.func14, Try.ntmps14
  go_upto_region 1 with fail
  obtain ⟨wx, hwx⟩ : ∃ wx, wx = (w.alloc (.cells #[.int .i64 x.call, .int .i64 x.now, .string x.id, .string x.tok, .string x.nxt, .string x.user, .string x.cl, .string x.ses, .slice A x.sc.length d] 39)).alloc (.cells #[.string ⟨#[]⟩, .string ⟨#[]⟩, .string ⟨#[]⟩, .string ⟨#[]⟩, .string ⟨#[]⟩, .string ⟨#[]⟩, .string ⟨#[]⟩, .int .i64 0, .slice none 0 0, .int .i64 0, .int .i64 0] 35) := ⟨_, rfl⟩
  rw [← hwx]
  have HBX := Lib.hid (show Below w.heap.size w wx by rw [hwx]; go_grown)
  have HX3 := Lib.hid (show wx.heap[w.heap.size]? = some (.cells #[.int .i64 x.call, .int .i64 x.now, .string x.id, .string x.tok, .string x.nxt, .string x.user, .string x.cl, .string x.ses, .slice A x.sc.length d] 39 (0, 0)) by rw [hwx]; rw [Below.heap_alloc _ _ _ (by simp)]; exact heap_alloc_new _ _)
  have HZX := Lib.hid (show wx.heap[w.heap.size + 1]? = some (.cells #[.string ⟨#[]⟩, .string ⟨#[]⟩, .string ⟨#[]⟩, .string ⟨#[]⟩, .string ⟨#[]⟩, .string ⟨#[]⟩, .string ⟨#[]⟩, .int .i64 0, .slice none 0 0, .int .i64 0, .int .i64 0] 35 (0, 0)) by
    rw [hwx]
    have e : w.heap.size + 1 = (w.alloc (.cells #[.int .i64 x.call, .int .i64 x.now, .string x.id, .string x.tok, .string x.nxt, .string x.user, .string x.cl, .string x.ses, .slice A x.sc.length d] 39)).heap.size := by simp
    rw [e]; exact heap_alloc_new _ _)
  have HHX := Lib.hid (HH.out.below HBX.out)
  have HLT := Lib.hid HH.out.lt
  clear hwx
  have x0 := cell_block HX3.out 0
  have x2 := cell_block HX3.out 2
  simp only [List.getElem?_toArray, List.getElem?_cons_zero, List.getElem?_cons_succ] at x0 x2
  go_wp2_with fail
  refine (rRevoke_any HHX.out x.id).mono ?_
  rintro e w1 ⟨rfl, hr1, hm1⟩
  have HR1 := Lib.hid (ref_grow wx hr1)
  have HM1 := Lib.hid hm1
  have HZ1 := Lib.hid ((HM1.out.block (w.heap.size + 1) (blk_lt HZX.out) (fun e => by have := HLT.out _ e; omega)).trans HZX.out)
  clear hr1 hm1
  obtain ⟨k, hk⟩ : ∃ k : Int, k = (if decide (endN (isId x.id) st = 1) then 1 else 0) := ⟨_, rfl⟩
  have HK := Lib.hid hk
  clear hk
  generalize hbv : decide (endN (isId x.id) st = 1) = bv at *
  have HBV := Lib.hid hbv
  clear hbv
  go_wp2_with (first | (refine store_none rfl (.tmp 4) (.tmp 51) rfl (w.heap.size + 1) rfl rfl HZ1.out ?_) | (go_at_call 33; refine (yes_any _ _).mono ?_; rintro e w2 ⟨rfl, rfl⟩; rw [← HK.out]))
  obtain ⟨y0, y1, y2, y3, y4, y5, y6, y7, y8, y9, y10⟩ := cells11 HZ1.out
  refine bodyPost_ret (v := .tuple #[.agg #[.string ⟨#[]⟩, .string ⟨#[]⟩, .string ⟨#[]⟩, .string ⟨#[]⟩, .string ⟨#[]⟩, .string ⟨#[]⟩, .string ⟨#[]⟩, .int .i64 0, .slice none 0 0, .int .i64 0, .int .i64 0], .int .i64 k]) (by simp [results, Try.results14, go_sem, y0, y1, y2, y3, y4, y5, y6, y7, y8, y9, y10]) rfl ?_
  exact rnum_rot (by rw [HR.out, HK.out]) HBX.out HR1.out HM1.out
set_option maxRecDepth 100000 in
set_option maxHeartbeats 4000000 in
theorem rdo_6 {w : World} {S : Nat → Prop} {F : Nat} {st : St} (h : RefE w S F st) (x : Opx) (A : Option Addr) (d : Nat) (hs : Ss w A x.sc.length d x.sc) (hok : opOk x = true) (hBS : ∀ a, A = some a → 0 < x.sc.length → ¬ S a.block) (q0 : (x.call == 0) = false) (q1 : (x.call == 1) = false) (q2 : (x.call == 2) = false) (q3 : (x.call == 3) = false) (q4 : (x.call == 4) = false) (q5 : (x.call == 5) = false) (hr : doS st x = (st, (noG, if liveI st x.id x.now then 1 else 0))) :
    Calls Try.prog 14 #[.pointer (some ⟨F, 0, none⟩), .agg #[.int .i64 x.call, .int .i64 x.now, .string x.id, .string x.tok, .string x.nxt, .string x.user, .string x.cl, .string x.ses, .slice A x.sc.length d]] w (RDoIs w S F (doS st x)) := by
  obtain ⟨z1, z2, z3, z4, z5, z6, z7, z8⟩ := ok_parts hok
  have HH := Lib.hid h
  have HS := Lib.hid hs
  have HBS := Lib.hid hBS
  have HR := Lib.hid hr
  have HZ8 := Lib.hid z8
  clear h hs hBS hr z8 hok
  go_enter Try.func14, Try.ntmps14
  go_upto_region 1 with fail
  obtain ⟨wx, hwx⟩ : ∃ wx, wx = (w.alloc (.cells #[.int .i64 x.call, .int .i64 x.now, .string x.id, .string x.tok, .string x.nxt, .string x.user, .string x.cl, .string x.ses, .slice A x.sc.length d] 39)).alloc (.cells #[.string ⟨#[]⟩, .string ⟨#[]⟩, .string ⟨#[]⟩, .string ⟨#[]⟩, .string ⟨#[]⟩, .string ⟨#[]⟩, .string ⟨#[]⟩, .int .i64 0, .slice none 0 0, .int .i64 0, .int .i64 0] 35) := ⟨_, rfl⟩
  rw [← hwx]
  have HBX := Lib.hid (show Below w.heap.size w wx by rw [hwx]; go_grown)
  have HX3 := Lib.hid (show wx.heap[w.heap.size]? = some (.cells #[.int .i64 x.call, .int .i64 x.now, .string x.id, .string x.tok, .string x.nxt, .string x.user, .string x.cl, .string x.ses, .slice A x.sc.length d] 39 (0, 0)) by rw [hwx]; rw [Below.heap_alloc _ _ _ (by simp)]; exact heap_alloc_new _ _)
  have HZX := Lib.hid (show wx.heap[w.heap.size + 1]? = some (.cells #[.string ⟨#[]⟩, .string ⟨#[]⟩, .string ⟨#[]⟩, .string ⟨#[]⟩, .string ⟨#[]⟩, .string ⟨#[]⟩, .string ⟨#[]⟩, .int .i64 0, .slice none 0 0, .int .i64 0, .int .i64 0] 35 (0, 0)) by
    rw [hwx]
    have e : w.heap.size + 1 = (w.alloc (.cells #[.int .i64 x.call, .int .i64 x.now, .string x.id, .string x.tok, .string x.nxt, .string x.user, .string x.cl, .string x.ses, .slice A x.sc.length d] 39)).heap.size := by simp
    rw [e]; exact heap_alloc_new _ _)
  have HHX := Lib.hid (HH.out.below HBX.out)
  have HLT := Lib.hid HH.out.lt
  clear hwx
  have x0 := cell_block HX3.out 0
  have x1 := cell_block HX3.out 1
  have x2 := cell_block HX3.out 2
  simp only [List.getElem?_toArray, List.getElem?_cons_zero, List.getElem?_cons_succ] at x0 x1 x2
  obtain ⟨k, hk⟩ : ∃ k : Int, k = (if liveI st x.id x.now then 1 else 0) := ⟨_, rfl⟩
  have HK := Lib.hid hk
  clear hk
  go_wp2_with fail
  refine (rlive_any HHX.out x.id x.now).mono ?_
  rintro e w1 ⟨rfl, hb1⟩
  generalize hbv : liveI st x.id x.now = bv at *
  have HBV := Lib.hid hbv
  clear hbv
  have HB1 := Lib.hid hb1
  have HZ1 := Lib.hid ((HB1.out.block (w.heap.size + 1) (blk_lt HZX.out)).trans HZX.out)
  clear hb1
  go_wp2_with (first | (refine store_none rfl (.tmp 4) (.tmp 80) rfl (w.heap.size + 1) rfl rfl HZ1.out ?_) | (go_at_call 33; refine (yes_any _ _).mono ?_; rintro e w2 ⟨rfl, rfl⟩; rw [← HK.out]))
  obtain ⟨y0, y1, y2, y3, y4, y5, y6, y7, y8, y9, y10⟩ := cells11 HZ1.out
  refine bodyPost_ret (v := .tuple #[.agg #[.string ⟨#[]⟩, .string ⟨#[]⟩, .string ⟨#[]⟩, .string ⟨#[]⟩, .string ⟨#[]⟩, .string ⟨#[]⟩, .string ⟨#[]⟩, .int .i64 0, .slice none 0 0, .int .i64 0, .int .i64 0], .int .i64 k]) (by simp [results, Try.results14, go_sem, y0, y1, y2, y3, y4, y5, y6, y7, y8, y9, y10]) rfl ?_
  exact rdo_no (by rw [HR.out, HK.out]) HH.out (HBX.out.trans (HB1.out.mono HBX.out.size))
end Go.Proofs.Ytfeljihbaekfmaa.Rf
