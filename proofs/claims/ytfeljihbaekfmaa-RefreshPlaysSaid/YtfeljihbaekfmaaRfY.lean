/-
  Calls as the statements of layer 41 list them: how they lie in memory; light, yes, grant.
-/
import Derived.Test.YtfeljihbaekfmaaRfX
import Derived.Test.YtfeljihbaekfmaaRfOp
import Derived.IntWalk
namespace Go.Proofs.Ytfeljihbaekfmaa.Rf
open Go.RowKit Go.Proofs.Ytfeljihbaekfmaa.Fo

/-- A call's nine cells. -/
def OpAt (w : World) (b o : Nat) (x : Opx) : Prop :=
  ∃ A c, w.cell? ⟨b, o, none⟩ = some (.int .i64 x.call) ∧ w.cell? ⟨b, o + 1, none⟩ = some (.int .i64 x.now) ∧ w.cell? ⟨b, o + 2, none⟩ = some (.string x.id) ∧ w.cell? ⟨b, o + 3, none⟩ = some (.string x.tok) ∧ w.cell? ⟨b, o + 4, none⟩ = some (.string x.nxt) ∧ w.cell? ⟨b, o + 5, none⟩ = some (.string x.user) ∧ w.cell? ⟨b, o + 6, none⟩ = some (.string x.cl) ∧ w.cell? ⟨b, o + 7, none⟩ = some (.string x.ses) ∧ w.cell? ⟨b, o + 8, none⟩ = some (.slice A x.sc.length c) ∧ Ss w A x.sc.length c x.sc
def Os (w : World) (A : Option Addr) (n c : Nat) (l : List Opx) : Prop :=
  l.length = n ∧ n ≤ c ∧ (0 < n → ∃ b off, A = some ⟨b, off, none⟩ ∧ b < w.heap.size ∧ ∀ i, i < n → OpAt w b (off + i * 9) (oAt l i))
theorem Os.nil (w : World) (c : Nat) (A : Option Addr) : Os w A 0 c [] := ⟨rfl, Nat.zero_le _, fun h => absurd h (by omega)⟩
theorem OpAt.below {w w' : World} {b o : Nat} {x : Opx} (h : OpAt w b o x) (hb : Below w.heap.size w w') (hl : b < w.heap.size) : OpAt w' b o x := by
  obtain ⟨A, c, h0, h1, h2, h3, h4, h5, h6, h7, h8, h9⟩ := h
  have k := bkeep hb hl
  exact ⟨A, c, by rw [k]; exact h0, by rw [k]; exact h1, by rw [k]; exact h2, by rw [k]; exact h3, by rw [k]; exact h4, by rw [k]; exact h5, by rw [k]; exact h6, by rw [k]; exact h7, by rw [k]; exact h8, h9.below hb⟩
theorem Os.below {w w' : World} {A : Option Addr} {n c : Nat} {l : List Opx} (h : Os w A n c l) (hb : Below w.heap.size w w') : Os w' A n c l := by
  refine ⟨h.1, h.2.1, fun hn => ?_⟩
  obtain ⟨b, off, hA, hl, hc⟩ := h.2.2 hn
  exact ⟨b, off, hA, Nat.lt_of_lt_of_le hl hb.size, fun i hi => (hc i hi).below hb hl⟩
theorem take_all_succ {l : List Opx} {k : Nat} (h : k < l.length) : (l.take (k + 1)).all opOk = ((l.take k).all opOk && opOk (oAt l k)) := by
  rw [List.take_add_one, oAt_get l k h]
  simp
theorem yes_any (b : Bool) (w : World) : Calls Try.prog 33 #[.bool b] w fun e w' => e = .returned (.int .i64 (if b then 1 else 0)) ∧ w = w' := by
  cases b <;> (go_enter Try.func33, Try.ntmps33; go_wp2; go_ret; exact ⟨rfl, rfl⟩)
/-- The cells of a grant made by the statements. -/
theorem grant_any (u c s : Bs) (A : Option Addr) (n d : Nat) (w : World) :
    Calls Try.prog 24 #[.string u, .string c, .string s, .slice A n d] w fun e w' => e = .returned (.agg #[.string u, .string c, .string ⟨#[116]⟩, .string s, .string ⟨#[]⟩, .string ⟨#[110]⟩, .string ⟨#[]⟩, .int .i64 0, .slice A n d, .int .i64 3, .int .i64 2]) ∧ Below w.heap.size w w' := by
  go_enter Try.func24, Try.ntmps24
  go_wp2
  refine bodyPost_ret (v := .agg #[.string u, .string c, .string ⟨#[116]⟩, .string s, .string ⟨#[]⟩, .string ⟨#[110]⟩, .string ⟨#[]⟩, .int .i64 0, .slice A n d, .int .i64 3, .int .i64 2]) (by simp [results, Try.results24, go_sem]) rfl ⟨rfl, by go_grown⟩
theorem small_le {s : Bs} : small s = true ↔ s.size ≤ 200 := by simp [small]
theorem opOk_no {x : Opx} (h : ¬ (x.id.size ≤ 200 ∧ x.tok.size ≤ 200 ∧ x.nxt.size ≤ 200 ∧ x.user.size ≤ 200 ∧ x.cl.size ≤ 200 ∧ x.ses.size ≤ 200 ∧ x.sc.length ≤ 20)) : opOk x = false := by
  cases ho : opOk x with
  | false => rfl
  | true =>
    simp only [opOk, Bool.and_eq_true, small_le, decide_eq_true_eq] at ho
    exact absurd ⟨ho.1.1.1.1.1.1.1, ho.1.1.1.1.1.1.2, ho.1.1.1.1.1.2, ho.1.1.1.1.2, ho.1.1.1.2, ho.1.1.2, ho.1.2⟩ h
theorem opOk_yes {x : Opx} (h : x.id.size ≤ 200 ∧ x.tok.size ≤ 200 ∧ x.nxt.size ≤ 200 ∧ x.user.size ≤ 200 ∧ x.cl.size ≤ 200 ∧ x.ses.size ≤ 200 ∧ x.sc.length ≤ 20) : opOk x = x.sc.all small := by
  obtain ⟨h1, h2, h3, h4, h5, h6, h7⟩ := h
  simp [opOk, small, h1, h2, h3, h4, h5, h6, h7]
theorem light_false {l : List Opx} {k : Nat} (hk : k < l.length) (h24 : k < 24) (h : opOk (oAt l k) = false) : lightB l = false := by
  have hm : oAt l k ∈ l.take 24 := List.mem_of_getElem? (i := k) (by rw [List.getElem?_take, if_pos h24]; exact oAt_get l k hk)
  unfold lightB
  have : (l.take 24).all opOk = false := by
    cases hq : (l.take 24).all opOk with
    | false => rfl
    | true => rw [List.all_eq_true] at hq; rw [hq _ hm] at h; cases h
  rw [this]; rfl
theorem sc_false {l : List Bs} {q : Nat} (hq : q < l.length) (h : ¬ (sAt l q).size ≤ 200) : l.all small = false := by
  cases ha : l.all small with
  | false => rfl
  | true =>
    rw [List.all_eq_true] at ha
    exact absurd (small_le.1 (ha _ (List.mem_of_getElem? (i := q) (by rw [List.getElem?_eq_getElem hq, sAt_get]))) ) h
theorem sc_succ {l : List Bs} {q : Nat} (hq : q < l.length) (h0 : (l.take q).all small = true) (h : (sAt l q).size ≤ 200) : (l.take (q + 1)).all small = true := by
  rw [List.take_add_one, List.getElem?_eq_getElem hq, sAt_get]
  simp only [Option.toList_some, List.all_append, h0, List.all_cons, List.all_nil, Bool.true_and, Bool.and_true]
  exact small_le.2 h
set_option maxRecDepth 100000 in
set_option maxHeartbeats 4000000 in
theorem light_any (w : World) (A : Option Addr) (n c : Nat) (l : List Opx) (hs : Os w A n c l) :
    Calls Try.prog 9 #[.slice A n c] w fun e w' => e = .returned (.bool (lightB l)) ∧ Below w.heap.size w w' := by
  have HS := Lib.hid hs
  have HLN := Lib.hid hs.1
  clear hs
  go_enter Try.func9, Try.ntmps9
  go_wp2
  go_loopw [3, 4, 5] (fun i _ _ wr => ∃ k : Nat, i = .int .i64 k ∧ k ≤ n ∧ k ≤ 24 ∧ Hid ((l.take k).all opOk = true) ∧ Below w.heap.size w wr) (fun i _ _ _ => n - (intOf i).toNat)
  case atStart => exact ⟨0, rfl, Nat.zero_le _, by omega, by rw [List.take_zero]; trivial, Below.refl _ _⟩
  case round =>
    obtain ⟨k, rfl, hk, hk24, HI, hb⟩ := hrel
    have HB := Lib.hid hb
    clear hb
    by_cases hlt : k < n
    · by_cases h24 : k < 24
      · obtain ⟨b, off, rfl, hbl, hc⟩ := (HS.out.below HB.out).2.2 (by omega)
        obtain ⟨A, d, h0, h1, h2, h3, h4, h5, h6, h7, h8, hsc⟩ := hc k hlt
        have HF := Lib.hid (fun h => light_false (l := l) (k := k) (by rw [HLN.out]; exact hlt) h24 h)
        have HT := Lib.hid (show ((l.take (k + 1)).all opOk = ((l.take k).all opOk && opOk (oAt l k))) from take_all_succ (by rw [HLN.out]; exact hlt))
        obtain ⟨x, hx⟩ : ∃ x, oAt l k = x := ⟨_, rfl⟩
        rw [hx] at h0 h1 h2 h3 h4 h5 h6 h7 h8 hsc HF HT
        clear hx hc
        have HSC := Lib.hid hsc
        clear hsc
        have hcase : (200 < x.id.size) ∨ (x.id.size ≤ 200 ∧ 200 < x.tok.size) ∨ (x.id.size ≤ 200 ∧ x.tok.size ≤ 200 ∧ 200 < x.nxt.size) ∨ (x.id.size ≤ 200 ∧ x.tok.size ≤ 200 ∧ x.nxt.size ≤ 200 ∧ 200 < x.user.size) ∨ (x.id.size ≤ 200 ∧ x.tok.size ≤ 200 ∧ x.nxt.size ≤ 200 ∧ x.user.size ≤ 200 ∧ 200 < x.cl.size) ∨ (x.id.size ≤ 200 ∧ x.tok.size ≤ 200 ∧ x.nxt.size ≤ 200 ∧ x.user.size ≤ 200 ∧ x.cl.size ≤ 200 ∧ 200 < x.ses.size) ∨ (x.id.size ≤ 200 ∧ x.tok.size ≤ 200 ∧ x.nxt.size ≤ 200 ∧ x.user.size ≤ 200 ∧ x.cl.size ≤ 200 ∧ x.ses.size ≤ 200 ∧ 20 < x.sc.length) ∨ (x.id.size ≤ 200 ∧ x.tok.size ≤ 200 ∧ x.nxt.size ≤ 200 ∧ x.user.size ≤ 200 ∧ x.cl.size ≤ 200 ∧ x.ses.size ≤ 200 ∧ x.sc.length ≤ 20) := by omega
        by_cases hok : x.id.size ≤ 200 ∧ x.tok.size ≤ 200 ∧ x.nxt.size ≤ 200 ∧ x.user.size ≤ 200 ∧ x.cl.size ≤ 200 ∧ x.ses.size ≤ 200 ∧ x.sc.length ≤ 20
        · have HOK := Lib.hid (opOk_yes hok)
          clear hcase
          obtain ⟨z1, z2, z3, z4, z5, z6, z7⟩ := hok
          have HSC2 := Lib.hid (HSC.out.below (w' := wr.alloc (.cells #[.int .i64 x.call, .int .i64 x.now, .string x.id, .string x.tok, .string x.nxt, .string x.user, .string x.cl, .string x.ses, .slice A x.sc.length d] 39)) (by go_grown))
          have HB2 := Lib.hid (show Below w.heap.size w (wr.alloc (.cells #[.int .i64 x.call, .int .i64 x.now, .string x.id, .string x.tok, .string x.nxt, .string x.user, .string x.cl, .string x.ses, .slice A x.sc.length d] 39)) from HB.out.alloc HB.out.size _)
          go_wp2
          go_loop [5] (fun j => ∃ q : Nat, j = .int .i64 q ∧ q ≤ x.sc.length ∧ Hid ((x.sc.take q).all small = true)) (fun j => x.sc.length - (intOf j).toNat)
          case atStart => exact ⟨0, rfl, Nat.zero_le _, by rw [List.take_zero]; trivial⟩
          case round =>
            obtain ⟨q, rfl, hq, HQ⟩ := hrel
            by_cases hql : q < x.sc.length
            · obtain ⟨b2, off2, rfl, hbl2, hc2⟩ := HSC2.out.2.2 (by omega)
              have hc3 := hc2 q hql
              have HQF := Lib.hid (sc_false (l := x.sc) hql)
              have HQS := Lib.hid (sc_succ (l := x.sc) hql HQ.out)
              obtain ⟨y, hy⟩ : ∃ y, sAt x.sc q = y := ⟨_, rfl⟩
              rw [hy] at hc3 HQF HQS
              clear hy hc2
              by_cases hys : y.size ≤ 200
              · have HQ2 := Lib.hid (HQS.out hys)
                go_wp2
                go_round
                case rel => exact ⟨q + 1, by go_num, by omega, HQ2.out⟩
                case measure => simp [intOf]; omega
              · have HR := Lib.hid (HF.out (by rw [HOK.out]; exact HQF.out hys))
                go_wp2
                go_ret
                exact ⟨ret_bool HR.out.symm, HB2.out⟩
            · have HR := Lib.hid (show (l.take (k + 1)).all opOk = true by
                rw [HT.out, HI.out, HOK.out]
                have e := HQ.out
                rw [List.take_of_length_le (by omega)] at e
                rw [e]; rfl)
              go_wp2
              go_roundw
              case rel => exact ⟨k + 1, by go_num, by omega, by omega, HR.out, HB2.out⟩
              case measure => simp [intOf]; omega
        · have HR := Lib.hid (HF.out (opOk_no hok))
          rcases hcase with z1 | ⟨z1, z2⟩ | ⟨z1, z2, z3⟩ | ⟨z1, z2, z3, z4⟩ | ⟨z1, z2, z3, z4, z5⟩ | ⟨z1, z2, z3, z4, z5, z6⟩ | ⟨z1, z2, z3, z4, z5, z6, z7⟩ | hz
          rotate_right
          · exact absurd hz hok
          all_goals
            clear hok
            go_wp2
            go_ret
            exact ⟨ret_bool HR.out.symm, HB.out.alloc HB.out.size _⟩
      · have HR := Lib.hid (show lightB l = decide (n ≤ 24) by have e : k = 24 := by omega
                                                               subst e; unfold lightB; rw [HI.out, HLN.out]; rfl)
        go_wp2
        go_ret
        exact ⟨ret_bool (by rw [HR.out]; exact decide_eq_decide.2 (by omega)), HB.out⟩
    · have HR := Lib.hid (show lightB l = decide (n ≤ 24) by
        have e : l.take 24 = l.take k := by rw [List.take_of_length_le (by rw [HLN.out]; omega), List.take_of_length_le (by rw [HLN.out]; omega)]
        unfold lightB; rw [e, HI.out, HLN.out]; rfl)
      go_wp2
      go_ret
      exact ⟨ret_bool (by rw [HR.out]; exact decide_eq_decide.2 (by omega)), HB.out⟩
end Go.Proofs.Ytfeljihbaekfmaa.Rf
