/-
  The program's Rotate, whatever the token.
-/
import Derived.Test.YtfeljihbaekfmaaRfU2
import Derived.Test.YtfeljihbaekfmaaRfV
import Derived.Test.YtfeljihbaekfmaaRfV3
namespace Go.Proofs.Ytfeljihbaekfmaa.Rf
open Go.RowKit Go.Proofs.Ytfeljihbaekfmaa.Fo

theorem beq_bs {a b : Bs} : (a.toList == b.toList) = decide (a = b) := by
  rw [Lib.toList_data, Lib.toList_data, Bool.eq_iff_iff, beq_iff_eq, decide_eq_true_eq]
  exact ⟨fun h => bs_ext h, fun h => by rw [h]⟩
theorem rotate_any {w : World} {S : Nat → Prop} {F : Nat} {st : St} (h : RepE w S F st) (t n c : Bs) (sc : List Bs) (B : Option Addr) (m d : Nat) (now : Int) (ht : t.size ≤ 100000) (hn : n.size ≤ 100000)
    (hs : Ss w B m d sc) (hsh : Short sc) (hmm : m ≤ 1000) (hm : MX w) (hBS : ∀ a, B = some a → 0 < m → ¬ S a.block) :
    Calls Try.prog 25 #[.pointer (some ⟨F, 0, none⟩), .string t, .string n, .string c, .slice B m d, .int .i64 now] w (RotIs w S F (rot st t n c sc now)) := by
  cases hti : tokI st.l t with
  | none => exact rotate_no h t n c sc B m d now ht hti
  | some i =>
    obtain ⟨I, M1, M2, pl, h⟩ := h
    obtain ⟨x, hx, htx⟩ := tokI_some hti
    obtain ⟨b, hb⟩ := pl_at h.hl hx
    have hne := h.inv.ne x (List.mem_of_getElem? hx)
    by_cases e0 : c = x.g.client
    · have q0 : (c.toList == x.g.client.toList) = true := by rw [beq_bs]; simpa using e0
      by_cases e1 : t = cur x
      · have q1 : (t.toList == (cur x).toList) = true := by rw [beq_bs]; simpa using e1
        have hE : ∀ now', rotE st x t n c sc now' = _ := fun now' => rotE_1 (st := st) (n := n) (sc := sc) (now := now') e0 hne e1
        by_cases e2 : x.ended = true
        · exact rotate_25 h t n c sc B m d now hn hs hsh hmm hm i b x hti hx htx hb q0 q1 e2 (rot_is hti hx (by rw [hE, if_pos e2]) (by decide) (by decide))
        · have q2 : x.ended = false := by simpa using e2
          by_cases e3 : x.untl ≤ limI now
          · exact rotate_13 h t n c sc B m d now hn hs hsh hmm hm i b x hti hx htx hb q0 q1 q2 (by rw [addC_zero]; exact e3) (rot_is hti hx (by rw [hE, if_neg e2, if_pos e3]) (by decide) (by decide))
          · have q3 : ¬ x.untl ≤ addC now 0 := by rw [addC_zero]; exact e3
            by_cases e4 : wrd n = false
            · exact rotate_5 h t n c sc B m d now hn hs hsh hmm hm i b x hti hx htx hb q0 q1 q2 q3 e4 (rot_is hti hx (by rw [hE, if_neg e2, if_neg e3, if_pos e4]) (by decide) (by decide))
            · have q4 : wrd n = true := by simpa using e4
              by_cases e5 : tokI st.l n = none
              · have q5 : (tokI st.l n).isSome = false := by rw [e5]; rfl
                by_cases e6 : withinS sc x.g.scopes = false
                · exact rotate_19 h t n c sc B m d now hn hs hsh hmm hm i b x hti hx htx hb q0 q1 q2 q3 q4 q5 e6 (rot_is hti hx (by rw [hE, if_neg e2, if_neg e3, if_neg e4, if_neg (by simp [e5]), if_pos e6]) (by decide) (by decide))
                · have q6 : withinS sc x.g.scopes = true := by simpa using e6
                  by_cases e7 : 256 ≤ x.toks.length
                  · exact rotate_3 h t n c sc B m d now hn hs hsh hmm hm i b x hti hx htx hb q0 q1 q2 q3 q4 q5 q6 e7 (rot_is hti hx (by rw [hE, if_neg e2, if_neg e3, if_neg e4, if_neg (by simp [e5]), if_neg e6, if_pos e7]) (by decide) (by decide))
                  · have hr := rot_ok (st := st) (t := t) (n := n) (c := c) (sc := sc) (now := now) hti hx (by rw [hE, if_neg e2, if_neg e3, if_neg e4, if_neg (by simp [e5]), if_neg e6, if_neg e7])
                    rcases Nat.eq_zero_or_pos m with hm0 | hm0
                    · exact rotate_ok0 h t n c sc B m d now hn hs hsh hmm hm i b x hti hx htx hb q4 hm0 q0 q1 q2 q3 q4 q5 q6 e7 hr
                    · exact rotate_ok1 h t n c sc B m d now hn hs hsh hmm hm i b x hti hx htx hb q4 hm0 hBS q0 q1 q2 q3 q4 q5 q6 e7 hr
              · have q5 : (tokI st.l n).isSome = true := by
                  cases hq : tokI st.l n with
                  | none => exact absurd hq e5
                  | some _ => rfl
                exact rotate_7 h t n c sc B m d now hn hs hsh hmm hm i b x hti hx htx hb q0 q1 q2 q3 q4 q5 (rot_is hti hx (by rw [hE, if_neg e2, if_neg e3, if_neg e4, if_pos e5]) (by decide) (by decide))
      · exact rotate_18 h t n c sc B m d now hn hs hsh hmm hm i b x hti hx htx hb q0 (by rw [beq_bs]; simpa using e1) (rot_rep hti hx (rotE_18 e0 hne e1))
    · exact rotate_11 h t n c sc B m d now hn hs hsh hmm hm i b x hti hx htx hb (by rw [beq_bs]; simpa using e0) (rot_is hti hx (rotE_11 e0) (by decide) (by decide))
end Go.Proofs.Ytfeljihbaekfmaa.Rf
